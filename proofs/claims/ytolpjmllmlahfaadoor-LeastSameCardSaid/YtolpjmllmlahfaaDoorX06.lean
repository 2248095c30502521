/- The walks of the functions and the plain laws. Own texts of this claim, packed: prog11, MergeM, prog12, prog13, RingM, prog14. -/
import Derived.Test.YtolpjmllmlahfaaDoorX05
set_option linter.all false
namespace Go.Proofs.YtolpjmllmlahfaaDoor
open AL Go
set_option maxRecDepth 100000
set_option linter.all false
open ref01 ref03 ref04 ref06 prog prog2 prog3 prog4 prog5 prog6 prog7 prog8 prog9 prog10 Part Rungs LeftM TrimM Itoa Keys RoundM
def intT:Int→List AV:=fun x=> [tabbed (int x)]
instance (x:Int):OneAll (intT x):=inferInstanceAs (OneAll [tabbed (int x)])
def clN (N:Nat):List Int→List AV:=fun l=> [fre N (ints l)]
attribute [local semireducible] sl in
theorem ints_tab {xs:List Int} {w:World} {F:Fz} {v:Value} (h:(both (sl 1 intE xs) tab).p w F v):(sl 1 intT xs).p w F v:=by
 obtain⟨⟨A,cap,hv,hc,hm,hA⟩,ht⟩:=h
 refine⟨A,cap,hv,hc,hm,fun hne=> ?_⟩
 obtain⟨b,off,vs,h1,h2,h3,h4⟩:=hA hne
 refine⟨b,off,vs,h1,h2,h3,⟨h4.len,fun i x hi=> ?_⟩⟩
 have h5:=h4.el i x hi
 match hw:(vs.drop (i*1)).take 1,h5 with
 | [z],h5=>exact⟨⟨h5.1,ht⟩,trivial⟩
theorem keeps_ix {s:SSpec} {i:Nat} (h:i<s.states.length):ix (keeps s) i=keep s i:=ix_map_range h
theorem keeps_len (s:SSpec):(keeps s).length=s.states.length:=by simp[keeps]
theorem chain {n:Nat} {kf:Nat→ByteArray} {a:List Int × Nat} (h:((numBy (fun x y=>decide (kf x=kf y)) n).1,(numBy (fun x y=>decide (kf x=kf y)) n).2.length)=a):(numBy (fun x y=>decide (kf x=kf y)) n).1=a.1∧(((numBy (fun x y=>decide (kf x=kf y)) n).2.length:Nat):Int)=(a.2:Int):=by
 rw[←h];exact⟨rfl,rfl⟩
theorem kf0_size {s:SSpec} (hs:okSpec s) (i:Nat):(kf0 s i).size≤maxL:=by
 obtain⟨h1,h2⟩:=keep_bd hs i
 have:=tailB_size (keep s i) (fun x hx=>by have:=h1 x hx;omega)
 unfold kf0 maxL;omega
theorem kf1_size {s:SSpec} (hs:okSpec s) (j i:Nat):(kf1 s (itR s j).1 i).size≤maxL:=by
 have h3:(nbrs s (itR s j).1 i).length≤63:=by unfold nbrs;rw[List.length_map];exact listOf_len _ _
 have:=keyB_size (ix (itR s j).1 i) (nbrs s (itR s j).1 i) (by have:=cl_bd hs j i;omega) (fun y hy=>by have:=nbrs_bd hs j i y hy;omega)
 unfold kf1 maxL;omega
namespace T
theorem ent92:Ent Tryd.prog 92:=ent_of (by kernel_rfl)
theorem ent94:Ent Tryd.prog 94:=ent_of (by kernel_rfl)
theorem one134:IsOne Tryd.prog 134:=isOne_of (by kernel_rfl)
theorem ent93:Ent Tryd.prog 93:=ent_of (by kernel_rfl)
theorem z9:ZeroIs Tryd.prog 9 [.string ⟨#[]⟩]:=zeroIs_of (by kernel_rfl)
theorem ent89:Ent Tryd.prog 89:=ent_of (by kernel_rfl)
theorem z134:ZeroIs Tryd.prog 134 [.slice none 0 0]:=zeroIs_of (by kernel_rfl)
theorem ent91:Ent Tryd.prog 91:=ent_of (by kernel_rfl)
theorem ent62:Ent Tryd.prog 62:=ent_of (by kernel_rfl)
theorem ent88:Ent Tryd.prog 88:=ent_of (by kernel_rfl)
end T
namespace prog11
theorem key0_ok (s:SSpec) (hs:okSpec s) (i:Nat) (hi:i<s.states.length):
 Fn0 Tryd.prog 92 [int (i:Int),state (ix s.states i),tabbed (fp [sl 1 intsE (keeps s)])] (str (kf0 s i)):=by
 refine fnI Tryd.func92 rfl rfl (fun w0 F0=> ?_)
 have hkl:=keeps_len s
 have hki:=keeps_ix hi
 obtain⟨hkb,hkn⟩:=keep_bd hs i
 rw[←hki] at hkb hkn
 refine fcC (inhS 1 rfl) (fun hS1=> ?_)
 obtain⟨hxa1,hxn1⟩:=state_lens hS1
 refine tbI 2 9999 rfl ?_
 refine sq (rg (bx (key:=4) (cs:= [sl 1 intE ((ix s.states i).accept),sl 1 intE ((ix s.states i).next)]) rfl fun b4=>(ag (nl (th (sq (rg (ag (nl (th (sq (sq (rg (lF rfl rfl T.one134 (mv (iF rfl rfl T.sl134 (by omega) (by first|exact gN (by omega)|exact gI (by omega) (by omega)) (lF rfl rfl T.one28 (fc (slenI 12 rfl) fun hm12=>(lnF rfl T.sl28 (mv (nl (th (bk ?_)))))))))))))))))))))))
 have hI0_0:0≤(ix (keeps s) i).length:=by
  first|omega|simp
 have hI0_1:({ data:= #[] })=tailB ((ix (keeps s) i).take 0):=by
  rfl
 refine lp (κ:=Nat × ByteArray) (fun p=> [(5,str ({ data:= #[] })),(6,str p.2),(12,sl 1 intE (ix (keeps s) i)),(13,int ((ix (keeps s) i).length:Int)),(14,int (p.1:Int)),(9999,tab)]) (fun p=> [(4,cell b4 [sl 1 intE ((ix s.states i).accept),sl 1 intE ((ix s.states i).next)])]) (fun p=>(p.1≤(ix (keeps s) i).length)∧(p.2=tailB ((ix (keeps s) i).take p.1))) (fun p=>(ix (keeps s) i).length- p.1) ⟨0,{ data:= #[] }⟩ ⟨hI0_0,hI0_1⟩ ⟨id,id,id,id,id,id,trivial⟩ ⟨⟨rfl,id⟩,trivial⟩ ?_
 intro⟨k,acc⟩ hG0
 obtain⟨hk0,hI0⟩:(k≤(ix (keeps s) i).length)∧(acc=tailB ((ix (keeps s) i).take k)):=hG0
 show Ct _ _ _ _ [(5,str ({ data:= #[] })),(6,str acc),(12,sl 1 intE (ix (keeps s) i)),(13,int ((ix (keeps s) i).length:Int)),(14,int (k:Int)),(9999,tab)] [(4,cell b4 [sl 1 intE ((ix s.states i).accept),sl 1 intE ((ix s.states i).next)])] _
 refine sq (rg (bi rfl rfl b_lss (nl (th (sq ?_)))))
 refine cd rfl (fun hc0=> ?_) (fun hc0=> ?_)
 ·try simp at hc0
  have hkx:=hkb (ix (ix (keeps s) i) k) (ix_mem hc0)
  refine sk (th (sq (bk (sq (rg (iF rfl rfl T.sl28 (by omega) (by first|exact gN (by omega)|exact gI (by omega) (by omega)) (lF rfl rfl T.one3 (ag (nl (th (rg (mv (mv (tbU (ψ:=tab) 19 9999 rfl rfl (cal0 (φs:= [both (int (ix (ix (keeps s) i) k)) tab]) (φ:=str (itoaB (ix (ix (keeps s) i) k))) ⟨rfl,trivial⟩ (Itoa.Itoa_ok (ix (ix (keeps s) i) k) (by omega) (by omega)) T.ent93 (bi rfl rfl (b_addS (by have h9:=itoa_size (n:=ix (ix (keeps s) i) k) (by omega) (by omega);show 1+(itoaB (ix (ix (keeps s) i) k)).size≤maxL;unfold maxL;omega)) (bi rfl rfl (b_addS (by have h9:=itoa_size (n:=ix (ix (keeps s) i) k) (by omega) (by omega);have h10:=tailB_size ((ix (keeps s) i).take k) (fun x hx=>by have:=hkb x (List.mem_of_mem_take hx);omega);rw[List.length_take] at h10;rw[ByteArray.size_append,hI0];show _+(1+_)≤maxL;unfold maxL;omega)) (ag (nl (eb (th (rg (bi rfl rfl (b_add (by unfold I64;omega)) (mv (nl ?_)))))))))))))))))))))))))
  have hN0:(k+1)≤(ix (keeps s) i).length:=by
   first|omega|simp_all
  have hN1:(acc++(({ data:= #[32] })++(itoaB (ix (ix (keeps s) i) k))))=tailB ((ix (keeps s) i).take (k+1)):=by
   rw[hI0,tailB_snoc,take_s hc0]
  exact ln (⟨k+1,acc++(({ data:= #[32] })++(itoaB (ix (ix (keeps s) i) k)))⟩:Nat × ByteArray) ⟨hN0,hN1⟩ (by first|omega|(dsimp only;omega)) ⟨id,id,id,id,id,id,trivial⟩ ⟨⟨rfl,id⟩,trivial⟩
 ·try simp at hc0
  refine ex (xt_ (xt_ (xb (th (sq (rg (mv (ag (nl (th (rt ?_)))))))))))
  have hr0:acc=(kf0 s i):=by
   rw[hI0,show k=(ix (keeps s) i).length by omega,List.take_length,hki];rfl
  have hall:∀x0,acc=x0→resAV [str acc]=resAV [str x0]:=by rintro _ rfl;rfl
  exact rE () [.tmp 5] rfl [str acc] ⟨.tmp rfl,trivial⟩ (hall _ hr0) trivial (by first|exact .inr rfl|exact .inl rfl)
theorem key1_ok (s:SSpec) (hs:okSpec s) (j i:Nat) (hi:i<s.states.length):
 Fn0 Tryd.prog 94 [int (i:Int),state (ix s.states i),fp [sl 1 intT (itR s j).1],tabbed (fp [sl 1 intsE (keeps s)])] (str (kf1 s (itR s j).1 i)):=by
 refine fnI Tryd.func94 rfl rfl (fun w0 F0=> ?_)
 have hkl:=keeps_len s
 have hki:=keeps_ix hi
 obtain⟨hkb,hkn⟩:=keep_bd hs i
 rw[←hki] at hkb hkn
 have hcl:=itR_len s j
 have hcb:=cl_bd hs j
 have hci:=hcb i
 refine fcC (inhS 1 rfl) (fun hS1=> ?_)
 obtain⟨hxa1,hxn1⟩:=state_lens hS1
 refine tbI 3 9999 rfl ?_
 refine sq (rg (bx (key:=5) (cs:= [sl 1 intE ((ix s.states i).accept),sl 1 intE ((ix s.states i).next)]) rfl fun b5=>(ag (nl (th (sq (rg (lF rfl rfl T.one28 (mv (iF rfl rfl T.sl28 (by omega) (by first|exact gN (by omega)|exact gI (by omega) (by omega)) (lF rfl rfl T.one3 (cal0 (φs:= [both (int (ix ((itR s j).1) i)) tab]) (φ:=str (itoaB (ix ((itR s j).1) i))) ⟨rfl,trivial⟩ (Itoa.Itoa_ok (ix ((itR s j).1) i) (by omega) (by omega)) T.ent93 (al (key:=7) T.z9 (ex_cons (ex_nil)) fun b7=>(sP (φ:=str (itoaB (ix ((itR s j).1) i))) rfl rfl rfl T.one9 rfl (nl (th (sq (rg (ag (nl (th (sq (sq (rg (lF rfl rfl T.one134 (mv (iF rfl rfl T.sl134 (by omega) (by first|exact gN (by omega)|exact gI (by omega) (by omega)) (lF rfl rfl T.one28 (fc (slenI 20 rfl) fun hm20=>(lnF rfl T.sl28 (mv (nl (th (bk ?_))))))))))))))))))))))))))))))))))
 have hI0_0:0≤(ix (keeps s) i).length:=by
  first|omega|simp
 have hI0_1:(0:Int)=orAll ((ix (keeps s) i).take 0)∧0≤(0:Int)∧(0:Int)<256:=by
  exact⟨rfl,by omega,by omega⟩
 refine lp (κ:=Nat × Int) (fun p=> [(2,fp [sl 1 intT ((itR s j).1)]),(5,ptr 5 b5 0),(6,str ({ data:= #[] })),(7,ptr 7 b7 0),(8,int p.2),(20,sl 1 intE (ix (keeps s) i)),(21,int ((ix (keeps s) i).length:Int)),(22,int (p.1:Int)),(9999,tab)]) (fun p=> [(5,cell b5 [sl 1 intE ((ix s.states i).accept),sl 1 intE ((ix s.states i).next)]),(7,cell b7 [str (itoaB (ix ((itR s j).1) i))])]) (fun p=>(p.1≤(ix (keeps s) i).length)∧(p.2=orAll ((ix (keeps s) i).take p.1)∧0≤p.2∧p.2<256)) (fun p=>(ix (keeps s) i).length- p.1) ⟨0,(0:Int)⟩ ⟨hI0_0,hI0_1⟩ ⟨id,id,id,id,id,id,id,id,id,trivial⟩ ⟨⟨rfl,id⟩,⟨rfl,id⟩,trivial⟩ ?_
 intro⟨k,cn⟩ hG0
 obtain⟨hk0,hI0⟩:(k≤(ix (keeps s) i).length)∧(cn=orAll ((ix (keeps s) i).take k)∧0≤cn∧cn<256):=hG0
 show Ct _ _ _ _ [(2,fp [sl 1 intT ((itR s j).1)]),(5,ptr 5 b5 0),(6,str ({ data:= #[] })),(7,ptr 7 b7 0),(8,int cn),(20,sl 1 intE (ix (keeps s) i)),(21,int ((ix (keeps s) i).length:Int)),(22,int (k:Int)),(9999,tab)] [(5,cell b5 [sl 1 intE ((ix s.states i).accept),sl 1 intE ((ix s.states i).next)]),(7,cell b7 [str (itoaB (ix ((itR s j).1) i))])] _
 refine sq (rg (bi rfl rfl b_lss (nl (th (sq ?_)))))
 refine cd rfl (fun hc0=> ?_) (fun hc0=> ?_)
 ·try simp at hc0
  have hkx:=hkb (ix (ix (keeps s) i) k) (ix_mem hc0)
  refine sk (th (sq (bk (sq (rg (iF rfl rfl T.sl28 (by omega) (by first|exact gN (by omega)|exact gI (by omega) (by omega)) (lF rfl rfl T.one3 (ag (nl (th (rg (mv (mv (bi rfl rfl (b_orI (by omega) (by omega) (by omega) (by omega)) (ag (nl (eb (th (rg (bi rfl rfl (b_add (by unfold I64;omega)) (mv (nl ?_))))))))))))))))))))))
  have hN0:(k+1)≤(ix (keeps s) i).length:=by
   first|omega|simp_all
  have hN1:((cn.toNat|||((ix (ix (keeps s) i) k).toNat):Nat):Int)=orAll ((ix (keeps s) i).take (k+1))∧0≤((cn.toNat|||((ix (ix (keeps s) i) k).toNat):Nat):Int)∧((cn.toNat|||((ix (ix (keeps s) i) k).toNat):Nat):Int)<256:=by
   refine⟨?_,by omega,or_lt256 hI0.2.2 hkx.2⟩
   rw[take_s hc0,orAll_snoc,←hI0.1]
  exact ln (⟨k+1,((cn.toNat|||((ix (ix (keeps s) i) k).toNat):Nat):Int)⟩:Nat × Int) ⟨hN0,hN1⟩ (by first|omega|(dsimp only;omega)) ⟨id,id,id,id,id,id,id,id,id,trivial⟩ ⟨⟨rfl,id⟩,⟨rfl,id⟩,trivial⟩
 ·try simp at hc0
  have hcn:cn=orAll (keep s i):=by rw[hI0.1,show k=(ix (keeps s) i).length by omega,List.take_length,hki]
  refine ex (xt_ (xt_ (xb (th (sq (sq (rg (mv (cal0 (φs:= [int cn]) (φ:=clo 115 [fp [int cn]]) ⟨rfl,trivial⟩ (prog3.In_ok cn) T.ent95 (nl (th (bk ?_))))))))))))
  have hR0:(itoaB (ix ((itR s j).1) i))=keyB (ix (itR s j).1 i) (((listOf 63 cn).take 0).map fun a=>ix (itR s j).1 (ix (ix s.states i).next a.toNat).toNat):=by
   exact keyB_nil _
  refine rf (κ:=ByteArray) 900 (fun p=> [(5,cell b5 [sl 1 intE ((ix s.states i).accept),sl 1 intE ((ix s.states i).next)]),(7,cell b7 [str p])]) (fun iR p=>p=keyB (ix (itR s j).1 i) (((listOf 63 cn).take iR).map fun a=>ix (itR s j).1 (ix (ix s.states i).next a.toNat).toNat)) (fun c p=>False) rfl (InIt cn (by omega) (by omega)) T.ent115 rfl (fun _=>rfl) (fun _=>rfl) (itoaB (ix ((itR s j).1) i)) hR0 ⟨⟨rfl,id⟩,⟨rfl,id⟩,trivial⟩ ?_ ?_ (fun k h=>h.elim) (fun id k h=>h.elim) (fun c k h=>h.elim)
  ·intro m0 acc x0 hG0 hx0 l R w1 M1 F1 hRd
   have hR0:acc=keyB (ix (itR s j).1 i) (((listOf 63 cn).take m0).map fun a=>ix (itR s j).1 (ix (ix s.states i).next a.toNat).toNat):=hG0
   obtain⟨a,rfl,ha63,hha⟩:=listOf_get hx0
   rw[hcn] at hha
   have hgo:=can_go hs hi hha
   have hcx:=hcb (ix (ix s.states i).next a).toNat
   have hkz:=keyB_size (ix (itR s j).1 i) (((listOf 63 cn).take m0).map fun a=>ix (itR s j).1 (ix (ix s.states i).next a.toNat).toNat) (by omega) (fun y hy=>by
    obtain⟨z,_,rfl⟩:=List.mem_map.1 hy
    have:=hcb (ix (ix s.states i).next z.toNat).toNat
    omega)
   rw[List.length_map,List.length_take] at hkz
   have hlo:=listOf_len 63 cn
   refine rg (ag (nl (aq hRd rfl (bk (dr (nh:=12) [0,0,0,4,0,28,60,126,254,510,1022,2047,4095] T.mixed (by kernel_rfl) ?_)))))
   refine st_ rfl (fun _ _ _ gq kq=>lP (gq.1.trans rfl) rfl rfl T.one9 kq) ?_
   refine st_ rfl (fun _ _ _ gq kq=>lF (gq.1.trans rfl) rfl T.one28 kq) ?_
   refine st_ rfl (fun _ _ _ gq kq=>fP (gq.1.trans rfl) T.fld69_1 kq) ?_
   refine st_ rfl (fun _ _ _ gq kq=>lP (gq.1.trans rfl) rfl rfl T.one28 kq) ?_
   refine st_ rfl (fun _ _ _ gq kq=>mv' (gq.1.trans rfl) kq) ?_
   refine st_ rfl (fun _ _ _ gq kq=>iF (gq.1.trans rfl) (gq.2.1.trans rfl) T.sl28 (by omega) (by first|exact gN (by omega)|exact gI (by omega) (by omega)) kq) ?_
   refine st_ rfl (fun _ _ _ gq kq=>lF (gq.1.trans rfl) rfl T.one3 kq) ?_
   refine st_ rfl (fun _ _ _ gq kq=>iF (gq.1.trans rfl) (gq.2.1.trans rfl) T.sl28 (by omega) (by first|exact gN (by omega)|exact gI (by omega) (by omega)) kq) ?_
   refine st_ rfl (fun _ _ _ gq kq=>lF (gq.1.trans rfl) rfl T.one3 kq) ?_
   refine st_ rfl (fun _ _ _ gq kq=>cal0 (φs:= [both (int (ix ((itR s j).1) ((ix ((ix s.states i).next) a).toNat))) tab]) (φ:=str (itoaB (ix ((itR s j).1) ((ix ((ix s.states i).next) a).toNat)))) ⟨(gq.1.trans rfl),trivial⟩ (Itoa.Itoa_ok (ix ((itR s j).1) ((ix ((ix s.states i).next) a).toNat)) (by omega) (by omega)) T.ent93 kq) ?_
   refine st_ rfl (fun _ _ _ gq kq=>bi rfl (gq.1.trans rfl) (b_addS (by have h9:=itoa_size (n:=ix (itR s j).1 (ix (ix s.states i).next a).toNat) (by omega) (by omega);show 1+(itoaB _).size≤maxL;unfold maxL;omega)) kq) ?_
   refine st_ rfl (fun _ _ _ gq kq=>bi (gq.1.trans rfl) (gq.2.1.trans rfl) (b_addS (by have h9:=itoa_size (n:=ix (itR s j).1 (ix (ix s.states i).next a).toNat) (by omega) (by omega);have h10:=hkz;rw[ByteArray.size_append,hR0];show _+(1+_)≤maxL;unfold maxL;omega)) kq) ?_
   refine pn (sP (φ:=str (acc++(({ data:= #[32] })++(itoaB (ix ((itR s j).1) ((ix ((ix s.states i).next) a).toNat)))))) rfl rfl rfl T.one9 rfl (nl (eb ?_)))
   have hN0:(acc++(({ data:= #[32] })++(itoaB (ix ((itR s j).1) ((ix ((ix s.states i).next) a).toNat)))))=keyB (ix (itR s j).1 i) (((listOf 63 cn).take (m0+1)).map fun a=>ix (itR s j).1 (ix (ix s.states i).next a.toNat).toNat):=by
    rw[hR0,keyB_snoc,take_at hx0,List.map_append];rfl
   exact rqN (acc++(({ data:= #[32] })++(itoaB (ix ((itR s j).1) ((ix ((ix s.states i).next) a).toNat))))) hN0 ⟨⟨rfl,id⟩,⟨rfl,id⟩,⟨rfl,id⟩,trivial⟩
  ·intro acc hG0
   have hR0:acc=keyB (ix (itR s j).1 i) (((listOf 63 cn).take ((listOf 63 cn).length)).map fun a=>ix (itR s j).1 (ix (ix s.states i).next a.toNat).toNat):=hG0
   refine eb (th (sq (rg (lP rfl rfl rfl T.one9 (ag (nl (th (rt ?_))))))))
   have hr0:acc=(kf1 s (itR s j).1 i):=by
    rw[hR0,List.take_length,hcn];rfl
   have hall:∀x0,acc=x0→resAV [str acc]=resAV [str x0]:=by rintro _ rfl;rfl
   exact rE () [.tmp 6] rfl [str acc] ⟨.tmp rfl,trivial⟩ (hall _ hr0) trivial (by first|exact .inr rfl|exact .inl rfl)
theorem rounds_ok (s:SSpec):
 Fn0 Tryd.prog 62 [tabbed (spec s)] (clo 88 [tabbed (fp [strs s.actions,sl 2 stateE s.states])]):=by
 refine fnI Tryd.func62 rfl rfl (fun w0 F0=> ?_)
 refine tbI 0 9999 rfl ?_
 refine fcC (inhS 0 rfl) (fun hS0=> ?_)
 obtain⟨hsa0,hss0,hse0⟩:=spec_lens hS0
 refine sq (rg (bx (key:=1) (cs:= [sl 1 strE s.actions,sl 2 stateE s.states]) rfl fun b1=>(ag (nl (th (sq (rg (fzv 1 1 rfl rfl (tbU (ψ:=tab) 1 9999 rfl rfl (mkf (ag (nl (th (rt ?_))))))))))))))
 exact rE () [.tmp 2] rfl [clo 88 [both (fp [sl 1 strE s.actions,sl 2 stateE s.states]) tab]] ⟨.tmp rfl,trivial⟩ (rfl) trivial (by first|exact .inr rfl|exact .inl rfl)
theorem RoundsIt (N0:Nat) (s:SSpec) (hs:okSpec s):
 ItG N0 Tryd.prog 88 [tabbed (fp [strs s.actions,sl 2 stateE s.states])] (clN N0) (roundsL s):=by
 intro y Y Z hlaw hz hY0
 refine fnIG Tryd.func88 rfl rfl (fun w0 F0 hN0=> ?_)
 have hf1:=hs.few1;obtain⟨hn1,hn2⟩:=chain (num0 hs)
 refine tbI 1 9999 rfl ?_
 refine sq ?_
 refine drH (nh:=6) [0,0,2,7,0,31] [(none,[]),(none,[]),(none,[]),(none,[]),(some 3,[]),(some 3,[3])] T.mixed (by kernel_rfl) (by kernel_rfl) ?_
 refine stv (d:=9) (fun β0=>agg [sl 1 strE s.actions,sl 2 stateE s.states]) [] rfl (fun β β' hb=>rfl) (fun β0 _ _ _ _ gq gh kq=>lFA (gq.1.trans rfl) T.agg25 (Nat.le_of_ble_eq_true rfl) kq) ?_
 refine stv (d:=10) (fun β0=>agg [sl 1 strE s.actions,sl 2 stateE s.states]) [] rfl (fun β β' hb=>rfl) (fun β0 _ _ _ _ gq gh kq=>lFA (gq.1.trans rfl) T.agg25 (Nat.le_of_ble_eq_true rfl) kq) ?_
 refine stv (d:=11) (fun β0=>sl 1 blE (hollow s)) [] rfl (fun β β' hb=>rfl) (fun β0 _ _ _ _ gq gh kq=>cal0 (φs:= [agg [sl 1 strE s.actions,sl 2 stateE s.states]]) (φ:=sl 1 blE (hollow s)) ⟨(gq.1.trans rfl),trivial⟩ (prog7.Hollows_ok s (by assumption)) T.ent90 kq) ?_
 refine stv (d:=12) (fun β0=>sl 1 intsE (keeps s)) [] rfl (fun β β' hb=>rfl) (fun β0 _ _ _ _ gq gh kq=>cal0 (φs:= [agg [sl 1 strE s.actions,sl 2 stateE s.states],sl 1 blE (hollow s)]) (φ:=sl 1 intsE (keeps s)) ⟨(gq.1.trans rfl),(gq.2.1.trans rfl),trivial⟩ (prog10.left_ok s (by assumption)) T.ent89 kq) ?_
 refine sta 3 T.z134 (ex_cons (ex_nil)) ?_
 refine stw 3 (fun β0=>cell (gbk (β0 4)) [sl 1 intsE (keeps s)]) [3] rfl (fun β β' hb=>by first|rw[hb 4 rfl]|(dsimp only;rw[hb 4 rfl])) (fun β0 _ _ _ _ gq gh kq=>sP (φ:=sl 1 intsE (keeps s)) (gq.1.trans rfl) (gh.1.trans rfl) (gq.2.1.trans rfl) T.one134 rfl kq) ?_
 refine pnH fun β0=>(nl (th (sq (rg (fF rfl T.fld25_1 (lF rfl rfl T.one23 (fzv 3 3 rfl rfl (tbU (ψ:=tab) 3 9999 rfl rfl (mkf (kn 16 (keyP s.states.length s.states (kf0 s)) rfl (fun h=>clo_pf T.ent92 (fun i hi=>key0_ok s hs i hi) h) (calW (φs:= [sl 2 stateE s.states,keyP s.states.length s.states (kf0 s)]) (φ:=tup [fre N0 (sl 1 intE ((numBy (fun x y=>decide (kf0 s x=kf0 s y)) s.states.length).1)),int ((numBy (fun x y=>decide (kf0 s x=kf0 s y)) s.states.length).2.length:Int)]) ⟨rfl,rfl,trivial⟩ (prog5.numbered_ok s.states (kf0 s) (kf0_size hs) (by omega)) T.ent91 (fun N hN=>fun h=>tup_le (cs:= [fre N (sl 1 intE ((numBy (fun x y=>decide (kf0 s x=kf0 s y)) s.states.length).1)),int ((numBy (fun x y=>decide (kf0 s x=kf0 s y)) s.states.length).2.length:Int)]) (ds:= [fre N0 (sl 1 intE ((numBy (fun x y=>decide (kf0 s x=kf0 s y)) s.states.length).1)),int ((numBy (fun x y=>decide (kf0 s x=kf0 s y)) s.states.length).2.length:Int)]) ⟨fun h=>nw_mono (Nat.le_trans hN0 hN) h,fun h=>h,trivial⟩ h) (mv (xt rfl rfl (xt rfl rfl (ag (ag (nl (th (bk ?_)))))))))))))))))))
 have hI0_0:((numBy (fun x y=>decide (kf0 s x=kf0 s y)) s.states.length).1)=(itR s (0+1)).1∧((numBy (fun x y=>decide (kf0 s x=kf0 s y)) s.states.length).2.length:Int)=((itR s (0+1)).2:Int)∧Y 0 hz∧∀r,r<0→¬stopP s r:=by
  exact⟨hn1,hn2,hY0,fun r hr=>absurd hr (Nat.not_lt_zero r)⟩
 refine lp (κ:=Nat × (List Int) × Int × HA) (fun p=> [(0,eqv y),(1,fp [sl 1 strE s.actions,sl 2 stateE s.states]),(3,both (fp [sl 1 intsE (keeps s)]) tab),(4,fre N0 (sl 1 intE p.2.1)),(5,int p.2.2.1),(9999,tab)]) (fun p=> [(0,p.2.2.2)]) (fun p=>p.2.1=(itR s (p.1+1)).1∧p.2.2.1=((itR s (p.1+1)).2:Int)∧Y p.1 p.2.2.2∧∀r,r<p.1→¬stopP s r) (fun p=>s.states.length- p.1) ⟨0,(numBy (fun x y=>decide (kf0 s x=kf0 s y)) s.states.length).1,((numBy (fun x y=>decide (kf0 s x=kf0 s y)) s.states.length).2.length:Int),hz⟩ hI0_0 ⟨id,id,id,id,id,id,trivial⟩ ⟨⟨rfl,id⟩,trivial⟩ ?_
 intro⟨j,cl,mn,hh⟩ hG0
 have hI0:cl=(itR s (j+1)).1∧mn=((itR s (j+1)).2:Int)∧Y j hh∧∀r,r<j→¬stopP s r:=hG0
 show Ct _ _ _ _ [(0,eqv y),(1,fp [sl 1 strE s.actions,sl 2 stateE s.states]),(3,both (fp [sl 1 intsE (keeps s)]) tab),(4,fre N0 (sl 1 intE cl)),(5,int mn),(9999,tab)] [(0,hh)] _
 obtain⟨hm1,hm2⟩:=chain (num1 hs j)
 refine sq (sq (rg (mv (mv (callV (Hi:= [(0,hh)]) rfl (by show FnV _ _ [fre N0 (ints cl)] _ _ _;rw[hI0.1];exact hlaw j hh (itR s (j+1)).1 hI0.2.2.1 (rounds_at hs hI0.2.2.2)) ⟨⟨rfl,id⟩,trivial⟩ fun N bh=>oan 22 rfl fun hres=>(nl (th ?_)))))))
 refine cd rfl (fun hc0=> ?_) (fun hc0=> ?_)
 ·try simp at hc0
  refine sk (th (bk (sq (rg (mv (kn 23 (ints cl) rfl (fun h=>nw_le h) (tbU (ψ:=tab) 23 9999 rfl rfl (kn 23 (sl 1 intT cl) rfl (ints_tab) (al (key:=6) T.z28 (ex_cons (ex_nil)) fun b6=>(sP (φ:=sl 1 intT cl) rfl rfl rfl T.one28 rfl (nl (th (sq (rg (fF rfl T.fld25_1 (lF rfl rfl T.one23 (fzv 6 6 rfl rfl (mkf (kn 27 (keyP s.states.length s.states (kf1 s (itR s (j+1)).1)) rfl (fun h=>clo_pf T.ent94 (fun i hi=>by rw[hI0.1];exact key1_ok s hs (j+1) i hi) h) (calW (φs:= [sl 2 stateE s.states,keyP s.states.length s.states (kf1 s (itR s (j+1)).1)]) (φ:=tup [fre N0 (sl 1 intE ((numBy (fun x y=>decide (kf1 s (itR s (j+1)).1 x=kf1 s (itR s (j+1)).1 y)) s.states.length).1)),int ((numBy (fun x y=>decide (kf1 s (itR s (j+1)).1 x=kf1 s (itR s (j+1)).1 y)) s.states.length).2.length:Int)]) ⟨rfl,rfl,trivial⟩ (prog5.numbered_ok s.states (kf1 s (itR s (j+1)).1) (kf1_size hs (j+1)) (by omega)) T.ent91 (fun N hN=>fun h=>tup_le (cs:= [fre N (sl 1 intE ((numBy (fun x y=>decide (kf1 s (itR s (j+1)).1 x=kf1 s (itR s (j+1)).1 y)) s.states.length).1)),int ((numBy (fun x y=>decide (kf1 s (itR s (j+1)).1 x=kf1 s (itR s (j+1)).1 y)) s.states.length).2.length:Int)]) (ds:= [fre N0 (sl 1 intE ((numBy (fun x y=>decide (kf1 s (itR s (j+1)).1 x=kf1 s (itR s (j+1)).1 y)) s.states.length).1)),int ((numBy (fun x y=>decide (kf1 s (itR s (j+1)).1 x=kf1 s (itR s (j+1)).1 y)) s.states.length).2.length:Int)]) ⟨fun h=>nw_mono (Nat.le_trans hN0 hN) h,fun h=>h,trivial⟩ h) (mv (xt rfl rfl (xt rfl rfl (ag (ag (nl (th (sq (sq (rg (mv (mv (bi rfl rfl b_eql (nl (th ?_)))))))))))))))))))))))))))))))))))
  refine cd rfl (fun hc1=> ?_) (fun hc1=> ?_)
  ·try simp at hc1
   have hP:stopP s j:=by
    have h2:=hI0.2.1
    rw[hm2,h2] at hc1
    exact Int.ofNat.inj hc1
   refine rt (rt_ (rb (rt_ (rb ?_))))
   exact r0 bh.2 rfl (fun _=>andp_any7 (.inl (by rw[rounds_len hs hI0.2.2.2 hP];exact hres.1 hc0))) ⟨⟨rfl,id⟩,trivial⟩ (.inr rfl)
  ·try simp at hc1
   have hno2:∀r,r<j+1→¬stopP s r:=fun r hr=>by
    by_cases e:r=j
    ·subst e
     intro hP
     refine hc1 ?_
     rw[hm2,hI0.2.1]
     exact congrArg Int.ofNat hP
    ·exact hI0.2.2.2 r (by omega)
   refine sk (th (rg (mv (mv (ag (ag (nl (eb ?_))))))))
   have hN0:((numBy (fun x y=>decide (kf1 s (itR s (j+1)).1 x=kf1 s (itR s (j+1)).1 y)) s.states.length).1)=(itR s ((j+1)+1)).1∧((numBy (fun x y=>decide (kf1 s (itR s (j+1)).1 x=kf1 s (itR s (j+1)).1 y)) s.states.length).2.length:Int)=((itR s ((j+1)+1)).2:Int)∧Y (j+1) bh.2∧∀r,r<(j+1)→¬stopP s r:=by
    refine⟨hm1,hm2,hres.1 hc0,hno2⟩
   exact ln (⟨j+1,(numBy (fun x y=>decide (kf1 s (itR s (j+1)).1 x=kf1 s (itR s (j+1)).1 y)) s.states.length).1,((numBy (fun x y=>decide (kf1 s (itR s (j+1)).1 x=kf1 s (itR s (j+1)).1 y)) s.states.length).2.length:Int),bh.2⟩:Nat × (List Int) × Int × HA) hN0 (by have:=stop_lt hs hI0.2.2.2;(try dsimp only);omega) ⟨id,id,id,id,id,id,trivial⟩ ⟨⟨rfl,id⟩,trivial⟩
 ·try simp at hc0
  refine ex (xt_ (xt_ (xb ?_)))
  exact r0 bh.2 rfl (fun _=>andp_any7 (.inr (hres.2 hc0))) ⟨⟨rfl,id⟩,trivial⟩ (.inl rfl)
theorem Of_ok (s:SSpec) (hs:okSpec s):
 AL.Fn Tryd.prog 40 [tabbed (spec s)] [] (ι:=Unit) (fun N _=>fre N (ints (classesR s))) (fun _=> []):=by
 refine fnI Tryd.func40 rfl rfl (fun w0 F0=> ?_)
 refine tbI 0 9999 rfl ?_
 refine fcC (inhS 0 rfl) (fun hS0=> ?_)
 obtain⟨hsa0,hss0,hse0⟩:=spec_lens hS0
 refine sq (rg (bx (key:=1) (cs:= [sl 1 strE s.actions,sl 2 stateE s.states]) rfl fun b1=>(ag (nl (th (sq (rg (al (key:=3) T.z28 (ex_cons (ex_nil)) fun b3=>(nl (th (sq (sq (rg (lPA rfl rfl T.agg25 rfl (tbU (ψ:=tab) 5 9999 rfl rfl (cal0 (φs:= [both (agg [sl 1 strE s.actions,sl 2 stateE s.states]) tab]) (φ:=clo 88 [both (fp [sl 1 strE s.actions,sl 2 stateE s.states]) tab]) ⟨rfl,trivial⟩ (prog11.rounds_ok s) T.ent62 (nl (th (bk (kncC 3 0 (fre w0.heap.size (sl 1 intE [])) rfl rfl nw_nil ?_))))))))))))))))))))
 have hR0:([]:List Int)=if 0=0 then [] else(itR s 0).1:=by
  rfl
 refine rfG (κ:=(List Int)) 900 (fun p=> [(1,cell b1 [sl 1 strE s.actions,sl 2 stateE s.states]),(3,cell b3 [fre w0.heap.size (sl 1 intE p)])]) (fun iR p=>p=if iR=0 then [] else(itR s iR).1) (fun c p=>False) rfl (RoundsIt w0.heap.size s hs) T.ent88 rfl (fun _=>rfl) (fun _=>rfl) ([]:List Int) hR0 ⟨⟨rfl,id⟩,⟨rfl,id⟩,trivial⟩ ?_ ?_ (fun k h=>h.elim) (fun id k h=>h.elim) (fun c k h=>h.elim)
 ·intro m0 last x0 hG0 hx0 l R w1 M1 F1 hRd
  have hR0:last=if m0=0 then [] else(itR s m0).1:=hG0
  refine rg (ag (nl (aq hRd rfl (bk (rg (mv (sP (φ:=fre w0.heap.size (sl 1 intE x0)) rfl rfl rfl T.one28 rfl (nl (eb ?_)))))))))
  have hN0:x0=if (m0+1)=0 then [] else(itR s (m0+1)).1:=by
   rw[if_neg (by omega)];exact rounds_get hx0
  exact rqN x0 hN0 ⟨⟨rfl,id⟩,⟨rfl,id⟩,⟨rfl,id⟩,trivial⟩
 ·intro last hG0
  have hR0:last=if ((roundsL s).length)=0 then [] else(itR s ((roundsL s).length)).1:=hG0
  refine eb (th (sq (rg (lP rfl rfl rfl T.one28 (ag (nl (th (rt ?_))))))))
  have hr0:last=(classesR s):=by
   rw[hR0,(rounds_last hs).1,if_neg (by omega)];exact(rounds_last hs).2
  have hall:∀x0,last=x0→resAV [fre w0.heap.size (sl 1 intE last)]=resAV [fre w0.heap.size (sl 1 intE x0)]:=by rintro _ rfl;rfl
  exact rE () [.tmp 2] rfl [fre w0.heap.size (sl 1 intE last)] ⟨.tmp rfl,trivial⟩ (hall _ hr0) trivial (by first|exact .inr rfl|exact .inl rfl)
end prog11
end Go.Proofs.YtolpjmllmlahfaaDoor
namespace Go.Proofs.YtolpjmllmlahfaaDoor
open AL ref01 ref03 ref04 ref06 Part Rungs LeftM TrimM Itoa Keys RoundM
namespace MergeM
theorem rising_pw {l:List Int} (h:rising l=true):l.Pairwise (· < ·):=by
 rw[List.pairwise_iff_getElem]
 intro i j hi hj hij
 have hstep:∀k,i+k<l.length→ix l i≤ix l (i+k)∧(0<k→ix l i<ix l (i+k)):=fun k=>by
  induction k with
  |zero=>exact fun _=>⟨Int.le_refl _,fun h=>by omega⟩
  |succ k ih=>
   intro hk
   have h1:=ih (by omega)
   have h2:=rising_ix h (i:=i+k) (by omega)
   rw[show i+(k+1)=i+k+1 by omega]
   exact⟨by omega,fun _=>by omega⟩
 have:=(hstep (j- i) (by omega)).2 (by omega)
 rw[show i+(j- i)=j by omega,ix_get hi,ix_get hj] at this
 exact this
theorem pw_rising {l:List Int} (h:l.Pairwise (· < ·)):rising l=true:=by
 unfold rising
 rw[List.all_eq_true]
 intro i hi
 have hi:=List.mem_range.1 hi
 rw[decide_eq_true_eq,ix_get (by omega),ix_get (by omega)]
 exact List.pairwise_iff_getElem.1 h i (i+1) (by omega) (by omega) (by omega)
theorem keep_rising {s:SSpec} (hs:okSpec s) {x:Nat} (hx:x<s.states.length):rising (keep s x)=true:=
 pw_rising ((rising_pw (hs.st x hx).rise).filter _)
theorem tnext_ix {s:SSpec} {x:Int} {a:Nat} (ha:a<s.actions.length):ix (tnext s x) a=if has (orAll (keep s x.toNat)) (a:Int) then posN (ordS s) (ix (ix s.states x.toNat).next a) else-1:=ix_map_range ha
theorem ord_bd {s:SSpec} (hs:okSpec s) {i:Nat} (hi:i<(ordS s).length):0≤ix (ordS s) i∧ix (ordS s) i<(s.states.length:Int):=(show okQ s.states.length (ordS s) from order_okQ hs).1 i hi
theorem ord_le {s:SSpec} (hs:okSpec s):(ordS s).length≤s.states.length:=(show okQ s.states.length (ordS s) from order_okQ hs).le
noncomputable abbrev tS (s:SSpec):SSpec:=⟨s.actions,(ordS s).map (tstate s)⟩
theorem tS_len (s:SSpec):(tS s).states.length=(ordS s).length:=by simp
theorem tS_at {s:SSpec} {i:Nat} (hi:i<(ordS s).length):ix (tS s).states i=tstate s (ix (ordS s) i):=by
 rw[ix_get (by rw[tS_len];exact hi),ix_get hi];simp
theorem tS_ok {s:SSpec} (hs:okSpec s):okSpec (tS s):=by
 have hop:=ordS_pos s
 have hol:=ord_le hs
 have hf1:=hs.few1
 have hn8:=hs.n8
 refine⟨hs.acts,hs.n8,by rw[tS_len];exact hop,by rw[tS_len];omega,fun k hk=> ?_⟩
 rw[tS_len] at hk ⊢
 rw[tS_at hk]
 have hb:=ord_bd hs hk
 have hx:(ix (ordS s) k).toNat<s.states.length:=by omega
 have hkb:=keep_bd hs (ix (ordS s) k).toNat
 refine⟨by simp[tstate,tnext],fun a ha=> ?_,fun i hi=>hkb.1 _ (ix_mem hi),fun i hi a ha=> ?_,keep_rising hs hx⟩
 ·show-1≤ix (tnext s _) a∧ix (tnext s _) a<_
  rw[tnext_ix (s:=s) ha]
  split
  ·have:=posN_bd (ordS s) (ix (ix s.states (ix (ordS s) k).toNat).next a)
   omega
  ·omega
 ·have hh:has (orAll (keep s (ix (ordS s) k).toNat)) (a:Int)=true:=(orAll_has _ _).2 ⟨_,ix_mem hi,ha⟩
  have hg:=can_go hs hx hh
  have hal:a<s.actions.length:=by have:=(hs.st _ hx).len;omega
  refine⟨hal,?_⟩
  show 0≤ix (tnext s _) a
  rw[tnext_ix hal,if_pos hh]
  exact(posN_bd _ _).1
open Classical in
theorem hollow_ix {s:SSpec} {x:Nat} (hx:x<s.states.length):ix (hollow s) x=true↔Hol s x:=by
 unfold hollow;rw[ix_map_range hx];simp
theorem hollow_out {s:SSpec} {x:Nat} (hx:¬x<s.states.length):ix (hollow s) x=false:=by
 have:(hollow s)[x]?=none:=List.getElem?_eq_none (by rw[hollow_len];omega)
 unfold ix
 rw[List.getD_eq_getElem?_getD,this];rfl
theorem keep_ne {s:SSpec} {x:Nat} (hx:x<s.states.length) (h:ix (hollow s) x=false):keep s x≠[]:=fun he=>by
 have hH:¬Hol s x:=fun hh=>by rw[(hollow_ix hx).2 hh] at h;cases h
 refine hH (Hol_closed s x hx (fun i hi=> ?_))
 rw[keep_filter h,List.filter_eq_nil_iff] at he
 have h1:=he _ (ix_mem hi)
 simp only [Bool.not_eq_true',Bool.not_eq_false] at h1
 obtain⟨a,h2,h3,h4,h5⟩:=falls_iff.1 h1
 refine⟨a,h2,h3,h4,?_⟩
 by_cases hb:(ix (ix s.states x).next a).toNat<s.states.length
 ·exact(hollow_ix hb).1 h5
 ·rw[hollow_out hb] at h5;cases h5
theorem ord_solid {s:SSpec} (hs:okSpec s) (h0:ix (hollow s) 0=false) {i:Nat} (hi:i<(ordS s).length):ix (hollow s) (ix (ordS s) i).toNat=false:=
 bq_solid hs h0 _ _ (ix_mem hi)
theorem tS_hollow {s:SSpec} (hs:okSpec s) (h0:ix (hollow s) 0=false) (i:Nat):ix (hollow (tS s)) i=false:=by
 by_cases hi:i<(tS s).states.length
 ·cases hv:ix (hollow (tS s)) i with
  |false=>rfl
  |true=>
   have h:=(hollow_ix hi).1 hv
   exfalso
   refine h (fun _=>False) (fun x hx hc=> ?_)
   rw[tS_len] at hx
   have hb:=ord_bd hs hx
   have hne:=keep_ne (s:=s) (x:=(ix (ordS s) x).toNat) (by omega) (ord_solid hs h0 hx)
   have hl:0<(ix (tS s).states x).accept.length:=by rw[tS_at hx];exact List.length_pos_iff.2 hne
   obtain⟨_,_,_,_,h⟩:=hc 0 hl
   exact h
 ·exact hollow_out hi
theorem tS_keep {s:SSpec} (hs:okSpec s) (h0:ix (hollow s) 0=false) {i:Nat} (hi:i<(ordS s).length):keep (tS s) i=keep s (ix (ordS s) i).toNat:=by
 rw[keep_filter (tS_hollow hs h0 i),tS_at hi]
 show(keep s _).filter _=_
 rw[List.filter_eq_self]
 intro t _
 rw[Bool.not_eq_true']
 cases hf:falls (tstate s (ix (ordS s) i)) t (hollow (tS s)) with
 |false=>rfl
 |true=>
  obtain⟨a,_,_,_,h⟩:=falls_iff.1 hf
  rw[tS_hollow hs h0] at h;cases h
theorem visit_sub {y:Int}:∀(ks l:List Int),y∈l→y∈visit l ks:=fun ks l h=>(visit_prefix ks l).subset h
theorem visit_has {y:Int} (h0:0≤y):∀(ks l:List Int),y∈ks→y∈visit l ks
 |k::ks,l,h=>by
  rw[visit_foldl,List.foldl_cons]
  rcases List.mem_cons.1 h with rfl|h
  ·refine visit_sub ks _ ?_
   unfold visit1
   by_cases hc:l.contains y=true
   ·rw[hc];simp;exact List.contains_iff_mem.1 hc
   ·simp only [Bool.not_eq_true] at hc
    rw[hc,if_pos (by simp[h0])];simp
  ·exact visit_has h0 ks _ h
theorem ord_closed {s:SSpec} (hs:okSpec s) {i:Nat} (hi:i<(ordS s).length) {a:Nat} (ha:has (orAll (keep s (ix (ordS s) i).toNat)) (a:Int)=true):ix (ix s.states (ix (ordS s) i).toNat).next a∈ordS s:=by
 have hol:=ord_le hs
 have hi2:i<(bq (solid s) i).length:=by
  rcases Nat.lt_or_ge i (bq (solid s) i).length with h|h
  ·exact h
  ·have he:=bq_end hs h (by omega)
   have:(ordS s).length≤i:=by show(order (solid s)).length≤i;rw[←he];exact h
   omega
 have hp:=bq_order hs (i:=i) (by omega)
 have hix:ix (ordS s) i=ix (bq (solid s) i) i:=ix_prefix hp hi2
 have hp1:=bq_order hs (i:=i+1) (by omega)
 rw[bq_succ hs hi2] at hp1
 refine hp1.subset ?_
 have hb:=ord_bd hs hi
 have hg:=can_go hs (x:=(ix (ordS s) i).toNat) (by omega) ha
 rw[←hix]
 have hn8:=hs.n8
 have hl:=(hs.st (ix (ordS s) i).toNat (by omega)).len
 refine visit_has hg.2.1 _ _ (List.mem_map.2 ⟨(a:Int),listOf_mem.2 ⟨a,rfl,by omega,ha⟩,by rw[Int.toNat_natCast]⟩)
theorem tS_nbrs {s:SSpec} (hs:okSpec s) (h0:ix (hollow s) 0=false) (cl:List Int) {i:Nat} (hi:i<(ordS s).length):
 nbrs (tS s) cl i=(listOf 63 (orAll (keep s (ix (ordS s) i).toNat))).map fun a=>ix cl (posN (ordS s) (ix (ix s.states (ix (ordS s) i).toNat).next a.toNat)).toNat:=by
 unfold nbrs
 rw[tS_keep hs h0 hi,tS_at hi]
 refine List.map_congr_left (fun a ha=> ?_)
 obtain⟨b,rfl,_,hb⟩:=listOf_mem.1 ha
 have hbd:=ord_bd hs hi
 have hg:=can_go hs (x:=(ix (ordS s) i).toNat) (by omega) hb
 have hl:=(hs.st (ix (ordS s) i).toNat (by omega)).len
 show ix cl (ix (tnext s _) _).toNat=_
 rw[Int.toNat_natCast,tnext_ix (by omega),if_pos hb]
theorem rounds_same {s:SSpec} (hs:okSpec s) (h0:ix (hollow s) 0=false):∀r,∀i j,i<(ordS s).length→j<(ordS s).length→
 (ix (itR (tS s) r).1 i=ix (itR (tS s) r).1 j↔ix (itR s r).1 (ix (ordS s) i).toNat=ix (itR s r).1 (ix (ordS s) j).toNat)
 |0,i,j,_,_=>by
  have hz:∀(u:SSpec) (k:Nat),ix (itR u 0).1 k=0:=fun u k=>by
   show ix (List.replicate u.states.length (0:Int)) k=0
   unfold ix
   rw[List.getD_eq_getElem?_getD,List.getElem?_replicate]
   split<;>rfl
  rw[hz,hz,hz,hz]
 |r+1,i,j,hi,hj=>by
  have ih:=rounds_same hs h0 r
  have ht:=tS_ok hs
  have hbi:=ord_bd hs hi
  have hbj:=ord_bd hs hj
  have e1:=(numOK (itR_eqOn ht r) (tS s).states.length (Nat.le_refl _)).iff (itR_eqOn ht r) (Nat.le_refl _) (x:=i) (y:=j) (by rw[tS_len];exact hi) (by rw[tS_len];exact hj)
  have e2:=(numOK (itR_eqOn hs r) s.states.length (Nat.le_refl _)).iff (itR_eqOn hs r) (Nat.le_refl _) (x:=(ix (ordS s) i).toNat) (y:=(ix (ordS s) j).toNat) (by omega) (by omega)
  refine Iff.trans e1 (Iff.trans ?_ e2.symm)
  rw[alike_nbrs ht (by rw[tS_len];exact hi) (by rw[tS_len];exact hj),alike_nbrs hs (by omega) (by omega),ih i j hi hj,tS_keep hs h0 hi,tS_keep hs h0 hj,tS_nbrs hs h0 _ hi,tS_nbrs hs h0 _ hj]
  refine and_congr_right (fun _=>and_congr_right (fun hk=> ?_))
  unfold nbrs
  rw[hk,List.map_inj_left,List.map_inj_left]
  refine forall_congr' (fun a=>forall_congr' (fun ha=> ?_))
  obtain⟨b,rfl,_,hb⟩:=listOf_mem.1 ha
  rw[Int.toNat_natCast]
  have hbi':has (orAll (keep s (ix (ordS s) i).toNat)) (b:Int)=true:=by rw[hk];exact hb
  obtain⟨p1,p2⟩:=posN_at (ord_closed hs hi hbi')
  obtain⟨q1,q2⟩:=posN_at (ord_closed hs hj hb)
  have p0:=(posN_bd (ordS s) (ix (ix s.states (ix (ordS s) i).toNat).next b)).1
  have q0:=(posN_bd (ordS s) (ix (ix s.states (ix (ordS s) j).toNat).next b)).1
  have:=ih _ _ (show(posN (ordS s) (ix (ix s.states (ix (ordS s) i).toNat).next b)).toNat<(ordS s).length by omega) (show(posN (ordS s) (ix (ix s.states (ix (ordS s) j).toNat).next b)).toNat<(ordS s).length by omega)
  rw[p2,q2] at this
  exact this
theorem itR_late {s:SSpec} (hs:okSpec s) {R:Nat} (h:s.states.length+1≤R):(itR s R).1=classesR s:=by
 have hP:=stop_spec hs
 have hno:∀r,r<stopR s→¬stopP s r:=fun r hr=>by
  have:=List.not_of_lt_findIdx hr
  simpa only [List.getElem_range,decide_eq_false_iff_not] using this
 have hl:=stop_lt hs hno
 have e:=(itR_step hs (stopR s+1)).2 (show(itR s (stopR s+1)).2=(itR s (stopR s+1+1)).2 from hP.symm)
 have h1:=itR_stable e (R- (stopR s+1))
 rw[show stopR s+1+(R- (stopR s+1))=R by omega] at h1
 rw[h1,(rounds_last hs).2]
theorem classes_same {s:SSpec} (hs:okSpec s) (h0:ix (hollow s) 0=false) {i j:Nat} (hi:i<(ordS s).length) (hj:j<(ordS s).length):
 ix (classesR (tS s)) i=ix (classesR (tS s)) j↔ix (classesR s) (ix (ordS s) i).toNat=ix (classesR s) (ix (ordS s) j).toNat:=by
 have:=rounds_same hs h0 (s.states.length+1) i j hi hj
 rw[itR_late (tS_ok hs) (by rw[tS_len];have:=ord_le hs;omega)] at this
 exact this
theorem num_prefix (rel:Nat→Nat→Bool) (k:Nat):(numBy rel k).1<+:(numBy rel (k+1)).1:=by
 rw[numBy]
 split
 ·exact List.prefix_append _ _
 ·exact List.prefix_append _ _
theorem num_prefixN (rel:Nat→Nat→Bool) (k:Nat):∀j,(numBy rel k).1<+:(numBy rel (k+j)).1
 |0=>List.prefix_rfl
 |j+1=>(num_prefixN rel k j).trans (num_prefix rel (k+j))
theorem num_step {n:Nat} {rel:Nat→Nat→Bool} (hr:EqOn n rel) {k:Nat} (hk:k<n):
 (ix (numBy rel n).1 k=((numBy rel k).2.length:Int)∧(numBy rel (k+1)).2.length=(numBy rel k).2.length+1∧∀i,i<k→ix (numBy rel n).1 i≠ix (numBy rel n).1 k)∨
 (ix (numBy rel n).1 k<((numBy rel k).2.length:Int)∧(numBy rel (k+1)).2.length=(numBy rel k).2.length∧∃i,i<k∧ix (numBy rel n).1 i=ix (numBy rel n).1 k):=by
 have hok:=numOK hr k (by omega)
 have hp:∀m,m≤n→∀i,i<m→ix (numBy rel n).1 i=ix (numBy rel m).1 i:=fun m hm i hi=>by
  have:=num_prefixN rel m (n- m)
  rw[show m+(n- m)=n by omega] at this
  exact ix_prefix this (by rw[num_len];exact hi)
 have hlen:=num_len (rel:=rel) k
 have hv:ix (numBy rel n).1 k=ix (numBy rel (k+1)).1 k:=hp (k+1) (by omega) k (by omega)
 rw[hv]
 have hi':∀i,i<k→ix (numBy rel n).1 i=ix (numBy rel k).1 i:=fun i hi=>hp k (by omega) i hi
 rw[numBy]
 split
 ·next j hj=>
  right
  have h1:=(findIdx_some hj).1
  refine⟨by rw[ixe hlen.symm];omega,rfl,(ix (numBy rel k).2 j).toNat,?_,?_⟩
  ·have:=hok.fs0 j h1;omega
  ·have h2:=hok.fs0 j h1
   rw[hi' _ (by omega),hok.at_ j h1,ixe hlen.symm]
 ·left
  refine⟨by rw[ixe hlen.symm],by simp,fun i hi=> ?_⟩
  have:=hok.cls i hi
  rw[hi' i hi,ixe hlen.symm];omega
def mst (cl:List Int) (x:SState):SState:=⟨x.accept,x.next.map (mapK cl)⟩
def mout (cl:List Int) (ts:List SState):Nat→List SState
 |0=> []
 |k+1=>if ix cl k=((mout cl ts k).length:Int) then mout cl ts k++ [mst cl (ix ts k)] else mout cl ts k
def mat (cl from_:List Int) (n:Nat):Nat→List Int
 |0=>List.replicate n (-1)
 |k+1=>(mat cl from_ n k).set (ix from_ k).toNat (ix cl k)
theorem mat_len (cl from_:List Int) (n:Nat):∀k,(mat cl from_ n k).length=n
 |0=>by simp[mat]
 |k+1=>by simp[mat,mat_len cl from_ n k]
noncomputable def merged (s:SSpec):SSpec × List Int:=
 if ix (hollow s) 0=true then(nothing s.actions,List.replicate s.states.length (-1))
 else(⟨s.actions,mout (classesR (tS s)) (tS s).states (ordS s).length⟩,mat (classesR (tS s)) (ordS s) s.states.length (ordS s).length)
theorem mat_out {cl l:List Int} {n:Nat} (hn:l.Nodup) (hb:∀i,i<l.length→0≤ix l i∧ix l i<(n:Int)):∀k,k≤l.length→∀i,i<k→ix (mat cl l n k) (ix l i).toNat=ix cl i
 |0,_,i,hi=>by omega
 |k+1,hk,i,hi=>by
  have hbk:=hb k (by omega)
  have hbi:=hb i (by omega)
  show ix ((mat cl l n k).set _ _) _=_
  rw[ix_set (by rw[mat_len];omega)]
  by_cases e:i=k
  ·subst e;rw[if_pos rfl]
  ·rw[if_neg (fun h=> ?_)]
   ·exact mat_out hn hb k (by omega) i (by omega)
   ·have h1:ix l i=ix l k:=by omega
    rw[ix_get (by omega),ix_get (by omega)] at h1
    exact e ((List.getElem_inj hn).1 h1)
theorem fold_same {s:SSpec} (hs:okSpec s) (h0:ix (hollow s) 0=false):∀k,k≤(ordS s).length→
 (lfold (classesR s) s.states.length ((ordS s).take k)).1.length=(numBy (alike (solid (tS s)) (itR (tS s) (tS s).states.length).1) k).2.length∧
 (lfold (classesR s) s.states.length ((ordS s).take k)).2.1.length=s.states.length∧
 (lfold (classesR s) s.states.length ((ordS s).take k)).2.2=mat (classesR (tS s)) (ordS s) s.states.length k∧
 (∀i,i<k→ix (lfold (classesR s) s.states.length ((ordS s).take k)).2.1 (ix (classesR s) (ix (ordS s) i).toNat).toNat=ix (classesR (tS s)) i+1)∧
 (∀y,(∀i,i<k→ix (classesR s) (ix (ordS s) i).toNat≠y)→0≤y→ix (lfold (classesR s) s.states.length ((ordS s).take k)).2.1 y.toNat=0)∧
 mout (classesR (tS s)) (tS s).states k=(lfold (classesR s) s.states.length ((ordS s).take k)).1.map (fun y=>mst (classesR (tS s)) (tstate s y))∧
 (∀y∈(lfold (classesR s) s.states.length ((ordS s).take k)).1,y∈ordS s)
 |0,_=>by
  refine⟨rfl,by simp[lfold],rfl,fun i hi=>by omega,fun y _ _=> ?_,rfl,fun y hy=>by simp[lfold] at hy⟩
  show ix (List.replicate s.states.length (0:Int)) _=0
  unfold ix
  rw[List.getD_eq_getElem?_getD,List.getElem?_replicate]
  split<;>rfl
 |k+1,hk=>by
  obtain⟨a1,a2,a3,a4,a5,a6,a7⟩:=fold_same hs h0 k (by omega)
  have hkl:k<(ordS s).length:=by omega
  have ht:=tS_ok hs
  have hb:=ord_bd hs hkl
  have hcb:=classes_bd hs (x:=(ix (ordS s) k).toNat) (by omega)
  have hcl:∀i,i<k→(ix (classesR (tS s)) i=ix (classesR (tS s)) k↔ix (classesR s) (ix (ordS s) i).toNat=ix (classesR s) (ix (ordS s) k).toNat):=fun i hi=>classes_same hs h0 (by omega) hkl
  have hcn:∀i,0≤ix (classesR (tS s)) i:=fun i=>(cl_bd ht _ i).1
  have hstep:=num_step (itR_eqOn ht (tS s).states.length) (k:=k) (by rw[tS_len];exact hkl)
  have hc:(numBy (alike (solid (tS s)) (itR (tS s) (tS s).states.length).1) (tS s).states.length).1=classesR (tS s):=rfl
  rw[hc] at hstep
  have hml:((mout (classesR (tS s)) (tS s).states k).length:Int)=((numBy (alike (solid (tS s)) (itR (tS s) (tS s).states.length).1) k).2.length:Int):=by rw[a6,List.length_map,a1]
  have htk:(ordS s).take (k+1)=(ordS s).take k++ [ix (ordS s) k]:=take_s hkl
  have hmo:mout (classesR (tS s)) (tS s).states (k+1)=if ix (classesR (tS s)) k=((mout (classesR (tS s)) (tS s).states k).length:Int) then mout (classesR (tS s)) (tS s).states k++ [mst (classesR (tS s)) (ix (tS s).states k)] else mout (classesR (tS s)) (tS s).states k:=rfl
  have hma:mat (classesR (tS s)) (ordS s) s.states.length (k+1)=(mat (classesR (tS s)) (ordS s) s.states.length k).set (ix (ordS s) k).toNat (ix (classesR (tS s)) k):=rfl
  rw[htk,lfold_snoc,hmo,hma,tS_at hkl]
  generalize hst:lfold (classesR s) s.states.length ((ordS s).take k)=st at a1 a2 a3 a4 a5 a6 a7 ⊢
  obtain⟨fi,pl,tm⟩:=st
  dsimp only at a1 a2 a3 a4 a5 a6 a7
  rcases hstep with⟨b1,b2,b3⟩|⟨b1,b2,i,hi,b3⟩
  ·have hz:ix pl (ix (classesR s) (ix (ordS s) k).toNat).toNat=0:=a5 _ (fun i hi h=>b3 i hi ((hcl i hi).2 h)) hcb.1
   have hself:∀v:Int,ix (pl.set (ix (classesR s) (ix (ordS s) k).toNat).toNat v) (ix (classesR s) (ix (ordS s) k).toNat).toNat=v:=fun v=>by rw[ix_set (by omega),if_pos rfl]
   unfold lstep
   rw[if_pos hz,if_pos (by rw[b1,hml])]
   dsimp only
   refine⟨by rw[List.length_append,List.length_singleton,a1,b2],by simp[a2],?_,fun i hi=> ?_,fun y hy h0y=> ?_,?_,fun y hy=> ?_⟩
   ·rw[hself,a3]
    congr 1
    rw[b1,←a1];omega
   ·by_cases e:i=k
    ·subst e;rw[hself,b1,←a1];omega
    ·have hne:ix (classesR s) (ix (ordS s) i).toNat≠ix (classesR s) (ix (ordS s) k).toNat:=fun h=>b3 i (by omega) ((hcl i (by omega)).2 h)
     have hbi:=ord_bd hs (i:=i) (by omega)
     have hci:=classes_bd hs (x:=(ix (ordS s) i).toNat) (by omega)
     rw[ix_set (by omega),if_neg (fun h=>hne (by omega))]
     exact a4 i (by omega)
   ·have hne:=hy k (by omega)
    rw[ix_set (by omega),if_neg (fun h=>hne (by omega))]
    exact a5 y (fun i hi=>hy i (by omega)) h0y
   ·rw[a6,List.map_append];rfl
   ·rcases List.mem_append.1 hy with hy|hy
    ·exact a7 y hy
    ·have:y=ix (ordS s) k:=by simpa using hy
     subst this;exact ix_mem hkl
  ·have hci:=(hcl i hi).1 b3
   have hv:ix pl (ix (classesR s) (ix (ordS s) k).toNat).toNat=ix (classesR (tS s)) k+1:=by rw[←hci,a4 i hi,b3]
   have hk0:=hcn k
   unfold lstep
   rw[if_neg (by rw[hv];omega),if_neg (by rw[hml];omega)]
   dsimp only
   refine⟨by rw[a1,b2],a2,?_,fun j hj=> ?_,fun y hy h0y=>a5 y (fun i hi=>hy i (by omega)) h0y,a6,a7⟩
   ·rw[hv,a3,show ix (classesR (tS s)) k+1- 1=ix (classesR (tS s)) k by omega]
   ·by_cases e:j=k
    ·subst e;exact hv
    ·exact a4 j (by omega)
theorem merged_eq {s:SSpec} (hs:okSpec s):merged s=leastR s:=by
 unfold merged leastR
 by_cases h:ix (hollow s) 0=true
 ·rw[if_pos h,if_pos h]
 ·rw[if_neg h,if_neg h]
  have h0:ix (hollow s) 0=false:=by simpa using h
  obtain⟨a1,a2,a3,a4,a5,a6,a7⟩:=fold_same hs h0 (ordS s).length (Nat.le_refl _)
  rw[List.take_length] at a1 a2 a3 a4 a5 a6 a7
  dsimp only
  rw[a6,←a3]
  congr 2
  refine List.map_congr_left (fun y hy=> ?_)
  have hyo:=a7 y hy
  obtain⟨i,hi,rfl⟩:=mem_ix hyo
  have hb:=ord_bd hs hi
  have hx:(ix (ordS s) i).toNat<s.states.length:=by omega
  have hl:=(hs.st _ hx).len
  unfold mst outState
  rw[solid_at hx]
  congr 1
  show(tnext s _).map (mapK _)=(cut _ _).map (mapK _)
  unfold tnext cut
  rw[List.map_map,List.map_map,hl]
  refine List.map_congr_left (fun a ha=> ?_)
  have ha:=List.mem_range.1 ha
  show mapK _ (if _ then _ else _)=mapK _ (if _ then _ else _)
  by_cases hh:has (orAll (keep s (ix (ordS s) i).toNat)) (a:Int)=true
  ·rw[if_pos hh,if_pos hh]
   have hg:=can_go hs hx hh
   obtain⟨p1,p2⟩:=posN_at (ord_closed hs hi hh)
   have p0:=(posN_bd (ordS s) (ix (ix s.states (ix (ordS s) i).toNat).next a)).1
   unfold mapK
   rw[if_pos p0,if_pos hg.2.1]
   have:=mat_out (cl:=classesR (tS s)) (n:=s.states.length) (order_nodup (solid s)) (fun i hi=>ord_bd hs hi) (ordS s).length (Nat.le_refl _) (posN (ordS s) (ix (ix s.states (ix (ordS s) i).toNat).next a)).toNat (by omega)
   have hp2:ix (order (solid s)) (posN (ordS s) (ix (ix s.states (ix (ordS s) i).toNat).next a)).toNat=ix (ix s.states (ix (ordS s) i).toNat).next a:=p2
   rw[hp2] at this
   rw[a3]
   exact this.symm
  ·rw[if_neg hh,if_neg hh];rfl
theorem mout_len (cl:List Int) (ts:List SState):∀k,(mout cl ts k).length≤k
 |0=>Nat.le_refl _
 |k+1=>by
  have ih:=mout_len cl ts k
  show(if _ then _ else _:List SState).length≤_
  split
  ·rw[List.length_append];simp;omega
  ·omega
theorem merged_not {s:SSpec} (h:ix (hollow s) 0=false):merged s=(⟨s.actions,mout (classesR (tS s)) (tS s).states (ordS s).length⟩,mat (classesR (tS s)) (ordS s) s.states.length (ordS s).length):=by
 unfold merged;rw[if_neg (by simp[h])]
theorem merged_hol {s:SSpec} (h:ix (hollow s) 0=true):merged s=(nothing s.actions,List.replicate s.states.length (-1)):=by
 unfold merged;rw[if_pos h]
theorem drop_ix {l:List Int} {k:Nat} (h:k<l.length):l.drop k=ix l k::l.drop (k+1):=by
 rw[ix_get h];exact List.drop_eq_getElem_cons h
theorem mapdrop_len {f:Int→Int} {l:List Int} {k:Nat} (h:k<l.length):((l.take k).map f).length=k:=by simp;omega
theorem mapdrop_ix {f:Int→Int} {l:List Int} {k:Nat} (h:k<l.length):ix ((l.take k).map f++l.drop k) k=ix l k:=by
 have hl:=mapdrop_len (f:=f) h
 rw[drop_ix h]
 unfold ix
 rw[List.getD_eq_getElem?_getD,List.getElem?_append_right (by omega),hl,Nat.sub_self];rfl
theorem mapdrop_set {f:Int→Int} {l:List Int} {k:Nat} (h:k<l.length):((l.take k).map f++l.drop k).set k (f (ix l k))=(l.take (k+1)).map f++l.drop (k+1):=by
 have hl:=mapdrop_len (f:=f) h
 rw[drop_ix h,List.set_append_right _ _ (by omega),hl,Nat.sub_self,List.set_cons_zero,take_s h,List.map_append]
 simp only [List.map_cons,List.map_nil,List.append_assoc,List.cons_append,List.nil_append]
theorem mapdrop_keep {f:Int→Int} {l:List Int} {k:Nat} (h:k<l.length) (hf:f (ix l k)=ix l k):(l.take k).map f++l.drop k=(l.take (k+1)).map f++l.drop (k+1):=by
 rw[drop_ix h,take_s h,List.map_append]
 simp only [List.map_cons,List.map_nil,List.append_assoc,List.cons_append,List.nil_append,hf]
end MergeM
end Go.Proofs.YtolpjmllmlahfaaDoor
namespace Go.Proofs.YtolpjmllmlahfaaDoor
open AL Go
set_option maxRecDepth 100000
set_option linter.all false
open ref01 ref03 ref04 ref06 prog prog2 prog3 prog4 prog5 prog6 prog7 prog8 prog9 prog10 prog11 Part Rungs LeftM TrimM Itoa Keys RoundM MergeM
namespace T
theorem ent64:Ent Tryd.prog 64:=ent_of (by kernel_rfl)
theorem ent40:Ent Tryd.prog 40:=ent_of (by kernel_rfl)
theorem ent65:Ent Tryd.prog 65:=ent_of (by kernel_rfl)
end T
namespace prog12
theorem CloneO_ok (l:List Int) (hl:l.length≤1000000):
 AL.Fn Tryd.prog 65 [ints l] [] (fun _ v=>osl 5 v) (fun v=> [(5,own v 3 1 intE l)]):=by
 refine fnI Tryd.func65 rfl rfl (fun w0 F0=> ?_)
 refine fcC (slenI 0 rfl) (fun hm0=> ?_)
 refine sq (rg (ag (nl (th (sq (sq (rg (mv (nilF rfl T.sl28.und fun nb4 hnb4=>(nl (th ?_)))))))))))
 refine cd rfl (fun hc0=> ?_) (fun hc0=> ?_)
 ·try simp at hc0
  refine sq (rg (ag (nl (th (rt (rt_ ?_))))))
  refine nwA 5 3 1 intE ?_
  refine knA 2 (osl 5 (.slice none 0 0)) rfl eq_osl ?_
  have hl0:l= []:=hnb4 hc0
  subst hl0
  exact rE (.slice none 0 0) [.tmp 2] rfl [osl 5 (.slice none 0 0)] ⟨.tmp rfl,trivial⟩ rfl ⟨⟨rfl,id⟩,trivial⟩ (.inr rfl)
 ·try simp at hc0
  refine sk (th (sq (rg (bs0 5 intE T.mk28 fun v5=>(mv (ap (key:=5) (zs:=l) osl_eq rfl rfl rfl T.mk28 (by unfold maxL at*;simp;omega) (by unfold maxL at*;simp;omega) fun v7=>(ag (nl (th (rt ?_))))))))))
  exact rE v7 [.tmp 2] rfl [osl 5 v7] ⟨.tmp rfl,trivial⟩ (rfl) ⟨⟨rfl,id⟩,trivial⟩ (by first|exact .inr rfl|exact .inl rfl)
theorem Merged_ok (s:SSpec) (hs:okSpec s):
 AL.Fn Tryd.prog 41 [tabbed (spec s)] [] (ι:=Unit) (fun N _=>tup [nspec N (leastR s).1,fre N (ints (leastR s).2)]) (fun _=> []):=by
 refine fnI Tryd.func41 rfl rfl (fun w0 F0=> ?_)
 have hf0:=hs.few0;have hf1:=hs.few1;have hn8:=hs.n8;have hop:=ordS_pos s;have hol:=ord_le hs
 refine tbI 0 9999 rfl ?_
 refine fcC (inhS 0 rfl) (fun hS0=> ?_)
 obtain⟨hsa0,hss0,hse0⟩:=spec_lens hS0
 refine sq (rg (bx (key:=1) (cs:= [sl 1 strE s.actions,sl 2 stateE s.states]) rfl fun b1=>(al (key:=2) T.z25 (ex_cons (ex_cons (ex_nil))) fun b2=>(ag (nl (th (sq (rg (bsE (enc:=intE) (xs:= [(-1)]) (css:= [[int (-1)]]) T.mk28 ⟨rfl,rfl,p1 (φ:=int (-1)) rfl,trivial⟩ rfl rfl rfl rfl (fP rfl T.fld25_1 (lP rfl rfl rfl T.one23 (fc (slenI 18 rfl) fun hm18=>(lnF rfl T.sl23 (cl (prog8.Repeat_ok s.states.length (by omega)) T.ent63 trivial fun N20 v20=>(ag (nl (th (sq (rg (lPA rfl rfl T.agg25 rfl (calW (φs:= [agg [sl 1 strE s.actions,sl 2 stateE s.states]]) (φ:=tup [agg [fre w0.heap.size (sl 1 strE ((trimS s).1.actions)),frb (ix (hollow s) 0) w0.heap.size (sl 2 stateE ((trimS s).1.states))],sl 1 intE ((trimS s).2)]) ⟨rfl,trivial⟩ (prog9.Trimmed_ok s (by assumption)) T.ent64 (fun N hN=>fun h=>tup_le (cs:= [agg [fre N (sl 1 strE ((trimS s).1.actions)),frb (ix (hollow s) 0) N (sl 2 stateE ((trimS s).1.states))],sl 1 intE ((trimS s).2)]) (ds:= [agg [fre w0.heap.size (sl 1 strE ((trimS s).1.actions)),frb (ix (hollow s) 0) w0.heap.size (sl 2 stateE ((trimS s).1.states))],sl 1 intE ((trimS s).2)]) ⟨fun h=>agg_le (cs:= [fre N (sl 1 strE ((trimS s).1.actions)),frb (ix (hollow s) 0) N (sl 2 stateE ((trimS s).1.states))]) (ds:= [fre w0.heap.size (sl 1 strE ((trimS s).1.actions)),frb (ix (hollow s) 0) w0.heap.size (sl 2 stateE ((trimS s).1.states))]) ⟨fun h=>nw_mono (hN) h,fun h=>frb_mono (hN) h,trivial⟩ h,fun h=>h,trivial⟩ h) (mv (xt rfl rfl (xt rfl rfl (al (key:=5) T.z25 (ex_cons (ex_cons (ex_nil))) fun b5=>(sPA (cs':= [fre w0.heap.size (sl 1 strE ((trimS s).1.actions)),frb (ix (hollow s) 0) w0.heap.size (sl 2 stateE ((trimS s).1.states))]) rfl rfl rfl T.agg25 rfl rfl (ag (nl (th (sq (sq (rg (mv (fc (slenI 26 rfl) fun hm26=>(lnF rfl T.sl28 (bi rfl rfl b_eql (nl (th ?_))))))))))))))))))))))))))))))))))))))
 refine cd rfl (fun hc0=> ?_) (fun hc0=> ?_)
 ·try simp at hc0
  have hh0:ix (hollow s) 0=true:=by
   cases h:ix (hollow s) 0 with
   |true=>rfl
   |false=>
    exfalso
    rw[trimmed_not h] at hc0
    have h3:=hop
    rw[show ordS s= [] from hc0] at h3
    simp at h3
  refine sq (rg (knc 5 1 (fre w0.heap.size (sl 2 stateE (trimS s).1.states)) rfl rfl (fun h=>frb_new hh0 h) (lPA rfl rfl T.agg25 rfl (mv (sPA (cs':= [fre w0.heap.size (sl 1 strE ((trimS s).1.actions)),fre w0.heap.size (sl 2 stateE ((trimS s).1.states))]) rfl rfl rfl T.agg25 rfl rfl (ag (nl (th (rt (rt_ ?_))))))))))
  refine fzNA intE 30 3 noM flat rfl rfl ?_
  have hr0:((trimS s).1.actions)=(((leastR s).1).actions):=by
   rw[←merged_eq hs,merged_hol hh0,trimmed_hol hh0]
  have hr1:((trimS s).1.states)=(((leastR s).1).states):=by
   rw[←merged_eq hs,merged_hol hh0,trimmed_hol hh0]
  have hr2:(List.replicate s.states.length (-1))=((leastR s).2):=by
   rw[←merged_eq hs,merged_hol hh0]
  have hall:∀x0 x1 x2,((trimS s).1.actions)=x0→((trimS s).1.states)=x1→(List.replicate s.states.length (-1))=x2→resAV [agg [fre w0.heap.size (sl 1 strE ((trimS s).1.actions)),fre w0.heap.size (sl 2 stateE ((trimS s).1.states))],fre w0.heap.size (sl 1 intE (List.replicate s.states.length (-1)))]=resAV [agg [fre w0.heap.size (sl 1 strE x0),fre w0.heap.size (sl 2 stateE x1)],fre w0.heap.size (sl 1 intE x2)]:=by rintro _ _ _ rfl rfl rfl;rfl
  exact rE () [.cell 2 25,.tmp 3] rfl [agg [fre w0.heap.size (sl 1 strE ((trimS s).1.actions)),fre w0.heap.size (sl 2 stateE ((trimS s).1.states))],fre w0.heap.size (sl 1 intE (List.replicate s.states.length (-1)))] ⟨.agg rfl rfl T.agg25 rfl rfl,.tmp rfl,trivial⟩ (hall _ _ _ hr0 hr1 hr2) trivial (by first|exact .inr rfl|exact .inl rfl)
 ·try simp at hc0
  have h00:ix (hollow s) 0=false:=by
   cases h:ix (hollow s) 0 with
   |false=>rfl
   |true=>exact absurd (by rw[trimmed_hol h]) hc0
  have hts:(trimS s).1=tS s:=by rw[trimmed_not h00]
  have htf:(trimS s).2=ordS s:=by rw[trimmed_not h00]
  have hto:okSpec (trimS s).1:=by rw[hts];exact tS_ok hs
  have hN:(trimS s).1.states.length=(ordS s).length:=by rw[hts];exact tS_len s
  have hNf:(trimS s).2.length=(ordS s).length:=by rw[htf]
  have hcll:=classes_len (trimS s).1
  refine sk (th (sq (rg (knc 5 1 (sl 2 stateE (trimS s).1.states) rfl rfl (fun h=>frb_le h) (lPA rfl rfl T.agg25 rfl (kn 31 (agg [sl 1 strE ((trimS s).1.actions),sl 2 stateE ((trimS s).1.states)]) rfl (fun h=>agg_le (cs:= [fre w0.heap.size (sl 1 strE ((trimS s).1.actions)),sl 2 stateE ((trimS s).1.states)]) (ds:= [sl 1 strE ((trimS s).1.actions),sl 2 stateE ((trimS s).1.states)]) ⟨fun h=>nw_le h,fun h=>h,trivial⟩ h) (tbU (ψ:=tab) 31 9999 rfl rfl (calW (φs:= [both (agg [sl 1 strE ((trimS s).1.actions),sl 2 stateE ((trimS s).1.states)]) tab]) (φ:=sl 1 intE (classesR ((trimS s).1))) ⟨rfl,trivial⟩ (prog11.Of_ok (trimS s).1 (by assumption)) T.ent40 (fun N hN=>fun h=>nw_le h) (ag (nl (th (sq (rg (fP rfl T.fld25_0 (lP rfl rfl rfl T.one22 (bd (css:= [(0,_)]) T.st25 (ex_cons (ex_cons (ex_nil))) ⟨rfl,rfl,p1 (φ:=fre w0.heap.size (sl 1 strE ((trimS s).1.actions))) rfl,trivial⟩ (al (key:=8) T.z25 (ex_cons (ex_cons (ex_nil))) fun b8=>(sPA (cs':= [fre w0.heap.size (sl 1 strE ((trimS s).1.actions)),eqv (.slice none 0 0)]) rfl rfl rfl T.agg25 rfl rfl (nl (th (sq (sq (rg (nw 80 69 2 (stateN w0.heap.size) (knc 8 1 (osl 80 (.slice none 0 0)) rfl rfl eq_osl (fP rfl T.fld25_1 (lP rfl rfl rfl T.one23 (fc (slenI 37 rfl) fun hm37=>(lnF rfl T.sl23 (mv (nl (th (bk ?_)))))))))))))))))))))))))))))))))
  have hI0_0:0≤((trimS s).1.states).length:=by
   first|omega|simp
  have hI0_1:([]:List SState)=mout (classesR (trimS s).1) (trimS s).1.states 0:=by
   rfl
  refine lp (κ:=Nat × Value × (List SState)) (fun p=> [(2,ptr 2 b2 0),(3,eqv (.slice none 0 0)),(4,osl 30 v20),(6,sl 1 intE ((trimS s).2)),(7,sl 1 intE (classesR ((trimS s).1))),(8,ptr 8 b8 0),(37,sl 2 stateE ((trimS s).1.states)),(38,int (((trimS s).1.states).length:Int)),(39,int (p.1:Int)),(9999,tab)]) (fun p=> [(1,cell b1 [sl 1 strE s.actions,sl 2 stateE s.states]),(2,cell b2 [eqv (.slice none 0 0),eqv (.slice none 0 0)]),(5,cell b5 [fre w0.heap.size (sl 1 strE ((trimS s).1.actions)),sl 2 stateE ((trimS s).1.states)]),(8,cell b8 [fre w0.heap.size (sl 1 strE ((trimS s).1.actions)),osl 80 p.2.1]),(30,own v20 3 1 intE (List.replicate s.states.length (-1))),(80,own p.2.1 69 2 (stateN w0.heap.size) p.2.2)]) (fun p=>(p.1≤((trimS s).1.states).length)∧(p.2.2=mout (classesR (trimS s).1) (trimS s).1.states p.1)) (fun p=>((trimS s).1.states).length- p.1) ⟨0,(.slice none 0 0),([]:List SState)⟩ ⟨hI0_0,hI0_1⟩ ⟨id,id,id,id,id,id,id,id,id,id,trivial⟩ ⟨⟨rfl,id⟩,⟨rfl,id⟩,⟨rfl,id⟩,⟨rfl,id⟩,⟨rfl,id⟩,⟨rfl,id⟩,trivial⟩ ?_
  intro⟨k,u8,acc⟩ hG0
  obtain⟨hk0,hI0⟩:(k≤((trimS s).1.states).length)∧(acc=mout (classesR (trimS s).1) (trimS s).1.states k):=hG0
  show Ct _ _ _ _ [(2,ptr 2 b2 0),(3,eqv (.slice none 0 0)),(4,osl 30 v20),(6,sl 1 intE ((trimS s).2)),(7,sl 1 intE (classesR ((trimS s).1))),(8,ptr 8 b8 0),(37,sl 2 stateE ((trimS s).1.states)),(38,int (((trimS s).1.states).length:Int)),(39,int (k:Int)),(9999,tab)] [(1,cell b1 [sl 1 strE s.actions,sl 2 stateE s.states]),(2,cell b2 [eqv (.slice none 0 0),eqv (.slice none 0 0)]),(5,cell b5 [fre w0.heap.size (sl 1 strE ((trimS s).1.actions)),sl 2 stateE ((trimS s).1.states)]),(8,cell b8 [fre w0.heap.size (sl 1 strE ((trimS s).1.actions)),osl 80 u8]),(30,own v20 3 1 intE (List.replicate s.states.length (-1))),(80,own u8 69 2 (stateN w0.heap.size) acc)] _
  have hacl:acc.length≤k:=by rw[hI0];exact mout_len _ _ _
  refine sq (rg (bi rfl rfl b_lss (nl (th (sq ?_)))))
  refine cd rfl (fun hc1=> ?_) (fun hc1=> ?_)
  ·try simp at hc1
   have hkN:k<(trimS s).1.states.length:=by omega
   have hst:=hto.st k hkN
   have hstl:=hst.len
   have hsta:=hst.acl
   have ht8:=hto.n8
   refine sk (th (sq (bk (sq (rg (mv (iF rfl rfl T.sl23 (by omega) (by first|exact gN (by omega)|exact gI (by omega) (by omega)) (lFA rfl T.agg69 (Nat.le_of_ble_eq_true rfl) (al (key:=10) T.z69 (ex_cons (ex_cons (ex_nil))) fun b10=>(ag (sPA (cs':= [sl 1 intE ((ix ((trimS s).1.states) k).accept),sl 1 intE ((ix ((trimS s).1.states) k).next)]) rfl rfl rfl T.agg69 rfl rfl (nl (th (sq (dr (nh:=8) [0,0,3,7,0,16,48,127] T.mixed (by kernel_rfl) ?_)))))))))))))))
   refine st_ rfl (fun _ _ _ gq kq=>mv' (gq.1.trans rfl) kq) ?_
   refine st_ rfl (fun _ _ _ gq kq=>mv' (gq.1.trans rfl) kq) ?_
   refine st_ rfl (fun _ _ _ gq kq=>iF (gq.1.trans rfl) (gq.2.1.trans rfl) T.sl28 (by omega) (gN (by omega)) kq) ?_
   refine st_ rfl (fun _ _ _ gq kq=>lF (gq.1.trans rfl) rfl T.one3 kq) ?_
   refine st_ rfl (fun _ _ _ gq kq=>fP (gq.1.trans rfl) T.fld25_1 kq) ?_
   refine st_ rfl (fun _ _ _ gq kq=>lP (gq.1.trans rfl) rfl rfl T.one23 kq) ?_
   refine st_ rfl (fun _ _ _ gq kq=>lnO (gq.1.trans rfl) rfl T.sl23 kq) ?_
   refine st_ rfl (fun _ _ _ gq kq=>bi (gq.1.trans rfl) (gq.2.1.trans rfl) b_eql kq) ?_
   refine pn (nl (th ?_))
   refine cd rfl (fun hc2=> ?_) (fun hc2=> ?_)
   ·try simp at hc2
    refine sq ?_
    refine drH (nh:=9) [0,1,3,0,8,31,63,0,255] [(none,[]),(none,[10]),(none,[]),(none,[]),(none,[10]),(some 57,[]),(none,[]),(some 11,[]),(some 11,[11])] T.mixed (by kernel_rfl) (by kernel_rfl) ?_
    refine stv (d:=52) (fun β0=>ptr 10 b10 0) [] rfl (fun β β' hb=>rfl) (fun β0 _ _ _ _ gq gh kq=>fP (gq.1.trans rfl) T.fld69_0 kq) ?_
    refine stv (d:=53) (fun β0=>sl 1 intE ((ix ((trimS s).1.states) k).accept)) [10] rfl (fun β β' hb=>rfl) (fun β0 _ _ _ _ gq gh kq=>lP (gq.1.trans rfl) (gh.1.trans rfl) rfl T.one28 kq) ?_
    refine stv (d:=54) (fun β0=>fre w0.heap.size (sl 1 intE ((ix ((trimS s).1.states) k).accept))) [] rfl (fun β β' hb=>rfl) (fun β0 _ _ _ _ gq gh kq=>calW (φs:= [sl 1 intE ((ix ((trimS s).1.states) k).accept)]) (φ:=fre w0.heap.size (sl 1 intE ((ix ((trimS s).1.states) k).accept))) ⟨(gq.1.trans rfl),trivial⟩ (prog.sCloneintE_ok _ (by omega)) T.ent65 (fun N hN=>fun h=>nw_mono (hN) h) kq) ?_
    refine stv (d:=55) (fun β0=>ptr 10 b10 1) [] rfl (fun β β' hb=>rfl) (fun β0 _ _ _ _ gq gh kq=>fP (gq.1.trans rfl) T.fld69_1 kq) ?_
    refine stv (d:=56) (fun β0=>sl 1 intE ((ix ((trimS s).1.states) k).next)) [10] rfl (fun β β' hb=>rfl) (fun β0 _ _ _ _ gq gh kq=>lP (gq.1.trans rfl) (gh.1.trans rfl) rfl T.one28 kq) ?_
    refine stc (d:=57) (e:=3) (n:=1) (enc:=intE) (xs:=(ix (trimS s).1.states k).next) 57 [] rfl (fun β0 _ _ _ _ gq gh kq=>cal (φs:= [sl 1 intE ((ix ((trimS s).1.states) k).next)]) (Hi:= []) ⟨(gq.1.trans rfl),trivial⟩ (rekey 57 (CloneO_ok (ix (trimS s).1.states k).next (by omega))) T.ent65 trivial fun N v=>kq v) ?_
    refine stv (d:=58) (fun β0=>agg [fre w0.heap.size (sl 1 intE ((ix ((trimS s).1.states) k).accept)),osl 57 (sv (β0 5))]) [] rfl (fun β β' hb=>by first|rw[hb 5 rfl]|(dsimp only;rw[hb 5 rfl])) (fun β0 _ _ _ _ gq gh kq=>bd (css:= [(0,_),(1,_)]) T.st69 (ex_cons (ex_cons (ex_nil))) ⟨rfl,rfl,p1 (φ:=fre w0.heap.size (sl 1 intE ((ix ((trimS s).1.states) k).accept))) (by exact(gq.1.trans rfl)),⟨rfl,rfl,p1 (φ:=osl 57 (sv (β0 5))) (by exact(gq.2.1.trans rfl)),trivial⟩⟩ kq) ?_
    refine sta 11 T.z69 (ex_cons (ex_cons (ex_nil))) ?_
    refine stw 11 (fun β0=>cell (gbk (β0 7)) [fre w0.heap.size (sl 1 intE ((ix ((trimS s).1.states) k).accept)),osl 57 (sv (β0 5))]) [11] rfl (fun β β' hb=>by first|rw[hb 5 rfl,hb 7 rfl]|(dsimp only;rw[hb 5 rfl,hb 7 rfl])) (fun β0 _ _ _ _ gq gh kq=>sPA (cs':= [fre w0.heap.size (sl 1 intE ((ix ((trimS s).1.states) k).accept)),osl 57 (sv (β0 5))]) (gq.1.trans rfl) (gh.1.trans rfl) (gq.2.1.trans rfl) T.agg69 rfl rfl kq) ?_
    refine pnH fun β0=>(nl (th (sq (sq (rg (fP rfl T.fld69_1 (lP rfl rfl rfl T.one28 (lnO rfl rfl T.sl28 (mv (nl (th (bk ?_))))))))))))
    have hI1_0:0≤(ix (trimS s).1.states k).next.length:=by
     first|omega|simp
    have hI1_1:((ix (trimS s).1.states k).next)=((ix (trimS s).1.states k).next.take 0).map (mapK (classesR (trimS s).1))++(ix (trimS s).1.states k).next.drop 0:=by
     simp
    refine lp (κ:=Nat × (List Int)) (fun p=> [(2,ptr 2 b2 0),(3,eqv (.slice none 0 0)),(4,osl 30 v20),(6,sl 1 intE ((trimS s).2)),(7,sl 1 intE (classesR ((trimS s).1))),(8,ptr 8 b8 0),(11,ptr 11 (gbk (β0 7)) 0),(37,sl 2 stateE ((trimS s).1.states)),(38,int (((trimS s).1.states).length:Int)),(39,int (k:Int)),(60,osl 57 (sv (β0 5))),(61,int (((ix (trimS s).1.states k).next).length:Int)),(62,int (p.1:Int)),(9999,tab)]) (fun p=> [(1,cell b1 [sl 1 strE s.actions,sl 2 stateE s.states]),(2,cell b2 [eqv (.slice none 0 0),eqv (.slice none 0 0)]),(5,cell b5 [fre w0.heap.size (sl 1 strE ((trimS s).1.actions)),sl 2 stateE ((trimS s).1.states)]),(8,cell b8 [fre w0.heap.size (sl 1 strE ((trimS s).1.actions)),osl 80 u8]),(10,cell b10 [sl 1 intE ((ix ((trimS s).1.states) k).accept),sl 1 intE ((ix ((trimS s).1.states) k).next)]),(11,cell (gbk (β0 7)) [fre w0.heap.size (sl 1 intE ((ix ((trimS s).1.states) k).accept)),osl 57 (sv (β0 5))]),(30,own v20 3 1 intE (List.replicate s.states.length (-1))),(57,own (sv (β0 5)) 3 1 intE p.2),(80,own u8 69 2 (stateN w0.heap.size) acc)]) (fun p=>(p.1≤(ix (trimS s).1.states k).next.length)∧(p.2=((ix (trimS s).1.states k).next.take p.1).map (mapK (classesR (trimS s).1))++(ix (trimS s).1.states k).next.drop p.1)) (fun p=>(ix (trimS s).1.states k).next.length- p.1) ⟨0,(ix (trimS s).1.states k).next⟩ ⟨hI1_0,hI1_1⟩ ⟨id,id,id,id,id,id,id,id,id,id,id,id,id,id,trivial⟩ ⟨⟨rfl,id⟩,⟨rfl,id⟩,⟨rfl,id⟩,⟨rfl,id⟩,⟨rfl,id⟩,⟨rfl,id⟩,⟨rfl,id⟩,⟨rfl,id⟩,⟨rfl,id⟩,trivial⟩ ?_
    intro⟨k1,nx⟩ hG1
    obtain⟨hk1,hI1⟩:(k1≤(ix (trimS s).1.states k).next.length)∧(nx=((ix (trimS s).1.states k).next.take k1).map (mapK (classesR (trimS s).1))++(ix (trimS s).1.states k).next.drop k1):=hG1
    show Ct _ _ _ _ [(2,ptr 2 b2 0),(3,eqv (.slice none 0 0)),(4,osl 30 v20),(6,sl 1 intE ((trimS s).2)),(7,sl 1 intE (classesR ((trimS s).1))),(8,ptr 8 b8 0),(11,ptr 11 (gbk (β0 7)) 0),(37,sl 2 stateE ((trimS s).1.states)),(38,int (((trimS s).1.states).length:Int)),(39,int (k:Int)),(60,osl 57 (sv (β0 5))),(61,int (((ix (trimS s).1.states k).next).length:Int)),(62,int (k1:Int)),(9999,tab)] [(1,cell b1 [sl 1 strE s.actions,sl 2 stateE s.states]),(2,cell b2 [eqv (.slice none 0 0),eqv (.slice none 0 0)]),(5,cell b5 [fre w0.heap.size (sl 1 strE ((trimS s).1.actions)),sl 2 stateE ((trimS s).1.states)]),(8,cell b8 [fre w0.heap.size (sl 1 strE ((trimS s).1.actions)),osl 80 u8]),(10,cell b10 [sl 1 intE ((ix ((trimS s).1.states) k).accept),sl 1 intE ((ix ((trimS s).1.states) k).next)]),(11,cell (gbk (β0 7)) [fre w0.heap.size (sl 1 intE ((ix ((trimS s).1.states) k).accept)),osl 57 (sv (β0 5))]),(30,own v20 3 1 intE (List.replicate s.states.length (-1))),(57,own (sv (β0 5)) 3 1 intE nx),(80,own u8 69 2 (stateN w0.heap.size) acc)] _
    have hnl:nx.length=(ix (trimS s).1.states k).next.length:=by rw[hI1];simp;omega
    refine sq (rg (bi rfl rfl b_lss (nl (th (sq ?_)))))
    refine cd rfl (fun hc3=> ?_) (fun hc3=> ?_)
    ·try simp at hc3
     have hv:ix nx k1=ix (ix (trimS s).1.states k).next k1:=by rw[hI1];exact mapdrop_ix (by omega)
     have hnb:=hst.nx k1 (by omega)
     refine sk (th (sq (bk (sq (rg (mv (iO rfl rfl rfl T.sl28 (by omega) (by omega) (lO rfl rfl (by first|exact gN (by omega)|exact gI (by omega) (by omega)) rfl T.one3 (ag (ag (nl (th (sq (rg (mv (bi rfl rfl b_geq (nl (th ?_))))))))))))))))))
     refine cd rfl (fun hc4=> ?_) (fun hc4=> ?_)
     ·try simp at hc4
      refine dr (nh:=8) [0,1,0,0,0,24,56,127,255] T.mixed (by kernel_rfl) ?_
      refine st_ rfl (fun _ _ _ gq kq=>fP (gq.1.trans rfl) T.fld69_1 kq) ?_
      refine st_ rfl (fun _ _ _ gq kq=>lP (gq.1.trans rfl) rfl rfl T.one28 kq) ?_
      refine st_ rfl (fun _ _ _ gq kq=>mv' (gq.1.trans rfl) kq) ?_
      refine st_ rfl (fun _ _ _ gq kq=>mv' (gq.1.trans rfl) kq) ?_
      refine st_ rfl (fun _ _ _ gq kq=>mv' (gq.1.trans rfl) kq) ?_
      refine st_ rfl (fun _ _ _ gq kq=>iF (gq.1.trans rfl) (gq.2.1.trans rfl) T.sl28 (by omega) (by first|exact gN (by omega)|exact gI (by omega) (by omega)) kq) ?_
      refine st_ rfl (fun _ _ _ gq kq=>lF (gq.1.trans rfl) rfl T.one3 kq) ?_
      refine st_ rfl (fun _ _ _ gq kq=>iO (gq.1.trans rfl) rfl (gq.2.1.trans rfl) T.sl28 (by omega) (by omega) kq) ?_
      refine pn (sO (φ:=int (ix (classesR ((trimS s).1)) ((ix nx k1).toNat))) rfl rfl rfl T.one3 (gN (by omega)) rfl (y':=(ix (classesR ((trimS s).1)) ((ix nx k1).toNat))) rfl (nl (eb (th (rg (bi rfl rfl (b_add (by unfold I64;omega)) (mv (nl ?_))))))))
      have hN0:(k1+1)≤(ix (trimS s).1.states k).next.length:=by
       first|omega|simp_all
      have hN1:(nx.set k1 (ix (classesR ((trimS s).1)) ((ix nx k1).toNat)))=((ix (trimS s).1.states k).next.take (k1+1)).map (mapK (classesR (trimS s).1))++(ix (trimS s).1.states k).next.drop (k1+1):=by
       rw[hI1,mapdrop_ix (by omega)]
       rw[←mapdrop_set (by omega)]
       congr 1
       unfold mapK
       rw[hv] at hc4
       rw[if_pos hc4]
      exact ln (⟨k1+1,nx.set k1 (ix (classesR ((trimS s).1)) ((ix nx k1).toNat))⟩:Nat × (List Int)) ⟨hN0,hN1⟩ (by first|omega|(dsimp only;omega)) ⟨id,id,id,id,id,id,id,id,id,id,id,id,id,id,trivial⟩ ⟨⟨rfl,id⟩,⟨rfl,id⟩,⟨rfl,id⟩,⟨rfl,id⟩,⟨rfl,id⟩,⟨rfl,id⟩,⟨rfl,id⟩,⟨rfl,id⟩,⟨rfl,id⟩,trivial⟩
     ·try simp at hc4
      refine sk (eb (th (rg (bi rfl rfl (b_add (by unfold I64;omega)) (mv (nl ?_))))))
      have hN0:(k1+1)≤(ix (trimS s).1.states k).next.length:=by
       first|omega|simp_all
      have hN1:nx=((ix (trimS s).1.states k).next.take (k1+1)).map (mapK (classesR (trimS s).1))++(ix (trimS s).1.states k).next.drop (k1+1):=by
       rw[hI1]
       exact mapdrop_keep (by omega) (by unfold mapK;rw[hv] at hc4;rw[if_neg (by omega)])
      exact ln (⟨k1+1,nx⟩:Nat × (List Int)) ⟨hN0,hN1⟩ (by first|omega|(dsimp only;omega)) ⟨id,id,id,id,id,id,id,id,id,id,id,id,id,id,trivial⟩ ⟨⟨rfl,id⟩,⟨rfl,id⟩,⟨rfl,id⟩,⟨rfl,id⟩,⟨rfl,id⟩,⟨rfl,id⟩,⟨rfl,id⟩,⟨rfl,id⟩,⟨rfl,id⟩,trivial⟩
    ·try simp at hc3
     refine ex (xt_ (xt_ (xb (th (rg (fP rfl T.fld25_1 (lP rfl rfl rfl T.one23 (fzcN intE 11 57 1 noM flat rfl rfl rfl (by decide) (lPA rfl rfl T.agg69 rfl (bsE (enc:=stateN w0.heap.size) (xs:= [(⟨(ix ((trimS s).1.states) k).accept,nx⟩)]) (css:= [[fre w0.heap.size (sl 1 intE ((ix ((trimS s).1.states) k).accept)),fre w0.heap.size (sl 1 intE nx)]]) T.mk23 ⟨rfl,rfl,pA (cs:= [fre w0.heap.size (sl 1 intE ((ix ((trimS s).1.states) k).accept)),fre w0.heap.size (sl 1 intE nx)]) rfl,trivial⟩ rfl rfl rfl rfl (ap (key:=80) (zs:= [(⟨(ix ((trimS s).1.states) k).accept,nx⟩)]) osl_eq rfl rfl rfl T.mk23 (by unfold maxL at*;simp;omega) (by unfold maxL at*;simp;omega) fun v82=>(fP rfl T.fld25_1 (storePO rfl rfl rfl rfl T.one23 rfl (nl (eb (th (rg (bi rfl rfl (b_add (by unfold I64;omega)) (mv (nl ?_))))))))))))))))))))
     have hN0:(k+1)≤((trimS s).1.states).length:=by
      first|omega|simp_all
     have hN1:(acc++ [(⟨(ix ((trimS s).1.states) k).accept,nx⟩)])=mout (classesR (trimS s).1) (trimS s).1.states (k+1):=by
      have hk1:k1=(ix (trimS s).1.states k).next.length:=by omega
      rw[hk1,List.take_length,List.drop_length,List.append_nil] at hI1
      show _=(if _ then _ else _:List SState)
      rw[←hI0,if_pos hc2]
      unfold mst
      rw[hI1]
     exact ln (⟨k+1,v82,acc++ [(⟨(ix ((trimS s).1.states) k).accept,nx⟩)]⟩:Nat × Value × (List SState)) ⟨hN0,hN1⟩ (by first|omega|(dsimp only;omega)) ⟨id,id,id,id,id,id,id,id,id,id,trivial⟩ ⟨⟨rfl,id⟩,⟨rfl,id⟩,⟨rfl,id⟩,⟨rfl,id⟩,⟨rfl,id⟩,⟨rfl,id⟩,trivial⟩
   ·try simp at hc2
    refine sk (eb (th (rg (bi rfl rfl (b_add (by unfold I64;omega)) (mv (nl ?_))))))
    have hN0:(k+1)≤((trimS s).1.states).length:=by
     first|omega|simp_all
    have hN1:acc=mout (classesR (trimS s).1) (trimS s).1.states (k+1):=by
     show _=(if _ then _ else _:List SState)
     rw[←hI0,if_neg hc2]
    exact ln (⟨k+1,u8,acc⟩:Nat × Value × (List SState)) ⟨hN0,hN1⟩ (by first|omega|(dsimp only;omega)) ⟨id,id,id,id,id,id,id,id,id,id,trivial⟩ ⟨⟨rfl,id⟩,⟨rfl,id⟩,⟨rfl,id⟩,⟨rfl,id⟩,⟨rfl,id⟩,⟨rfl,id⟩,trivial⟩
  ·try simp at hc1
   refine ex (xt_ (xt_ (xb (th (sq (sq (rg (mv (lnF rfl T.sl28 (mv (nl (th (bk ?_)))))))))))))
   have hI2_0:0≤((trimS s).2).length:=by
    first|omega|simp
   have hI2_1:(List.replicate s.states.length (-1))=mat (classesR (trimS s).1) (trimS s).2 s.states.length 0:=by
    rfl
   refine lp (κ:=Nat × (List Int)) (fun p=> [(2,ptr 2 b2 0),(3,eqv (.slice none 0 0)),(4,osl 30 v20),(7,sl 1 intE (classesR ((trimS s).1))),(8,ptr 8 b8 0),(85,sl 1 intE ((trimS s).2)),(86,int (((trimS s).2).length:Int)),(87,int (p.1:Int)),(9999,tab)]) (fun p=> [(1,cell b1 [sl 1 strE s.actions,sl 2 stateE s.states]),(2,cell b2 [eqv (.slice none 0 0),eqv (.slice none 0 0)]),(5,cell b5 [fre w0.heap.size (sl 1 strE ((trimS s).1.actions)),sl 2 stateE ((trimS s).1.states)]),(8,cell b8 [fre w0.heap.size (sl 1 strE ((trimS s).1.actions)),osl 80 u8]),(30,own v20 3 1 intE p.2),(80,own u8 69 2 (stateN w0.heap.size) acc)]) (fun p=>(p.1≤((trimS s).2).length)∧(p.2=mat (classesR (trimS s).1) (trimS s).2 s.states.length p.1)) (fun p=>((trimS s).2).length- p.1) ⟨0,List.replicate s.states.length (-1)⟩ ⟨hI2_0,hI2_1⟩ ⟨id,id,id,id,id,id,id,id,id,trivial⟩ ⟨⟨rfl,id⟩,⟨rfl,id⟩,⟨rfl,id⟩,⟨rfl,id⟩,⟨rfl,id⟩,⟨rfl,id⟩,trivial⟩ ?_
   intro⟨k2,tl⟩ hG2
   obtain⟨hk2,hI2⟩:(k2≤((trimS s).2).length)∧(tl=mat (classesR (trimS s).1) (trimS s).2 s.states.length k2):=hG2
   show Ct _ _ _ _ [(2,ptr 2 b2 0),(3,eqv (.slice none 0 0)),(4,osl 30 v20),(7,sl 1 intE (classesR ((trimS s).1))),(8,ptr 8 b8 0),(85,sl 1 intE ((trimS s).2)),(86,int (((trimS s).2).length:Int)),(87,int (k2:Int)),(9999,tab)] [(1,cell b1 [sl 1 strE s.actions,sl 2 stateE s.states]),(2,cell b2 [eqv (.slice none 0 0),eqv (.slice none 0 0)]),(5,cell b5 [fre w0.heap.size (sl 1 strE ((trimS s).1.actions)),sl 2 stateE ((trimS s).1.states)]),(8,cell b8 [fre w0.heap.size (sl 1 strE ((trimS s).1.actions)),osl 80 u8]),(30,own v20 3 1 intE tl),(80,own u8 69 2 (stateN w0.heap.size) acc)] _
   have htl:tl.length=s.states.length:=by rw[hI2];exact mat_len _ _ _ _
   refine sq (rg (bi rfl rfl b_lss (nl (th (sq ?_)))))
   refine cd rfl (fun hc5=> ?_) (fun hc5=> ?_)
   ·try simp at hc5
    have hob:0≤ix (trimS s).2 k2∧ix (trimS s).2 k2<(s.states.length:Int):=by rw[htf];exact ord_bd hs (by omega)
    refine sk (th (sq (bk (sq (rg (mv (iF rfl rfl T.sl28 (by omega) (by first|exact gN (by omega)|exact gI (by omega) (by omega)) (lF rfl rfl T.one3 (ag (ag (nl (th (rg (mv (mv (mv (mv (iF rfl rfl T.sl28 (by omega) (gN (by omega)) (lF rfl rfl T.one3 (iO rfl rfl rfl T.sl28 (by omega) (by omega) (sO (φ:=int (ix (classesR ((trimS s).1)) k2)) rfl rfl rfl T.one3 (by first|exact gN (by omega)|exact gI (by omega) (by omega)) rfl (y':=(ix (classesR ((trimS s).1)) k2)) rfl (nl (eb (th (rg (bi rfl rfl (b_add (by unfold I64;omega)) (mv (nl ?_))))))))))))))))))))))))))))
    have hN0:(k2+1)≤((trimS s).2).length:=by
     first|omega|simp_all
    have hN1:(tl.set ((ix ((trimS s).2) k2).toNat) (ix (classesR ((trimS s).1)) k2))=mat (classesR (trimS s).1) (trimS s).2 s.states.length (k2+1):=by
     rw[hI2];rfl
    exact ln (⟨k2+1,tl.set ((ix ((trimS s).2) k2).toNat) (ix (classesR ((trimS s).1)) k2)⟩:Nat × (List Int)) ⟨hN0,hN1⟩ (by first|omega|(dsimp only;omega)) ⟨id,id,id,id,id,id,id,id,id,trivial⟩ ⟨⟨rfl,id⟩,⟨rfl,id⟩,⟨rfl,id⟩,⟨rfl,id⟩,⟨rfl,id⟩,⟨rfl,id⟩,trivial⟩
   ·try simp at hc5
    refine ex (xt_ (xt_ (xb (th (sq (rg (fzcN stateE 8 80 1 noM (fun _=>rfl) rfl rfl rfl (by decide) (lPA rfl rfl T.agg25 rfl (mv (sPA (cs':= [fre w0.heap.size (sl 1 strE ((trimS s).1.actions)),fre w0.heap.size (sl 2 stateE acc)]) rfl rfl rfl T.agg25 rfl rfl (ag (nl (th (rt ?_))))))))))))))
    refine fzNA intE 30 3 noM flat rfl rfl ?_
    have hr0:((trimS s).1.actions)=(((leastR s).1).actions):=by
     rw[←merged_eq hs,merged_not h00,hts]
    have hr1:acc=(((leastR s).1).states):=by
     rw[←merged_eq hs,merged_not h00,hI0,hts,show k=(ordS s).length by omega]
    have hr2:tl=((leastR s).2):=by
     rw[←merged_eq hs,merged_not h00,hI2,hts,htf,show k2=(ordS s).length by omega]
    have hall:∀x0 x1 x2,((trimS s).1.actions)=x0→acc=x1→tl=x2→resAV [agg [fre w0.heap.size (sl 1 strE ((trimS s).1.actions)),fre w0.heap.size (sl 2 stateE acc)],fre w0.heap.size (sl 1 intE tl)]=resAV [agg [fre w0.heap.size (sl 1 strE x0),fre w0.heap.size (sl 2 stateE x1)],fre w0.heap.size (sl 1 intE x2)]:=by rintro _ _ _ rfl rfl rfl;rfl
    exact rE () [.cell 2 25,.tmp 3] rfl [agg [fre w0.heap.size (sl 1 strE ((trimS s).1.actions)),fre w0.heap.size (sl 2 stateE acc)],fre w0.heap.size (sl 1 intE tl)] ⟨.agg rfl rfl T.agg25 rfl rfl,.tmp rfl,trivial⟩ (hall _ _ _ hr0 hr1 hr2) trivial (by first|exact .inr rfl|exact .inl rfl)
end prog12
end Go.Proofs.YtolpjmllmlahfaaDoor
namespace Go.Proofs.YtolpjmllmlahfaaDoor
open AL Go
set_option maxRecDepth 100000
set_option linter.all false
open ref01 ref03 ref04 ref06 prog prog2 prog3 prog4 prog5 prog6 prog7 prog8 prog9 prog10 prog11 prog12 Part Rungs LeftM TrimM Itoa Keys RoundM MergeM
noncomputable def clsOf (s:SSpec):List Int:=if specOK s=true then classesR s else []
noncomputable def lstOf (s:SSpec):SSpec × List Int:=if specOK s=true then leastR s else(⟨[],[]⟩,[])
noncomputable def isOf (s:SSpec):Bool:=specOK s&&decide (s=(leastR s).1)
noncomputable def errOf (s:SSpec):Int:=if specOK s=true then 0 else 30
namespace T
theorem ent39:Ent Tryd.prog 39:=ent_of (by kernel_rfl)
theorem ent41:Ent Tryd.prog 41:=ent_of (by kernel_rfl)
theorem ent42:Ent Tryd.prog 42:=ent_of (by kernel_rfl)
end T
namespace prog13
theorem Classes_ok (s:SSpec) (hsm:smallSpec s):
 AL.Fn Tryd.prog 13 [tabbed (spec s)] [] (ι:=Unit) (fun N _=>tup [fre N (ints (clsOf s)),int (errOf s)]) (fun _=> []):=by
 refine fnI Tryd.func13 rfl rfl (fun w0 F0=> ?_)
 refine tbI 0 9999 rfl ?_
 refine fcC (inhS 0 rfl) (fun hS0=> ?_)
 obtain⟨hsa0,hss0,hse0⟩:=spec_lens hS0
 refine sq (rg (bx (key:=1) (cs:= [sl 1 strE s.actions,sl 2 stateE s.states]) rfl fun b1=>(ag (ag (nl (th (sq (sq (rg (lPA rfl rfl T.agg25 rfl (cal0 (φs:= [agg [sl 1 strE s.actions,sl 2 stateE s.states]]) (φ:=bl (specOK s)) ⟨rfl,trivial⟩ (prog2.Valid_ok s (by assumption)) T.ent39 (no rfl (nl (th ?_))))))))))))))
 refine cd rfl (fun hc0=> ?_) (fun hc0=> ?_)
 ·try simp at hc0
  refine sq (rg (ag (ag (nl (th (rt (rt_ ?_)))))))
  refine knA 2 (fre w0.heap.size (sl 1 intE [])) rfl nw_nil ?_
  have hr0: []=(clsOf s):=by
   unfold clsOf;rw[if_neg (by simp[hc0])]
  have hr1:(30:Int)=(errOf s):=by
   unfold errOf;rw[if_neg (by simp[hc0])]
  have hall:∀x0 x1,[]=x0→30=x1→resAV [fre w0.heap.size (sl 1 intE []),int 30]=resAV [fre w0.heap.size (sl 1 intE x0),int x1]:=by rintro _ _ rfl rfl;rfl
  exact rE () [.tmp 2,.tmp 3] rfl [fre w0.heap.size (sl 1 intE []),int 30] ⟨.tmp rfl,.tmp rfl,trivial⟩ (hall _ _ hr0 hr1) trivial (by first|exact .inr rfl|exact .inl rfl)
 ·try simp at hc0
  have hs:=okSpec_of hc0
  refine sk (th (sq (rg (lPA rfl rfl T.agg25 rfl (tbU (ψ:=tab) 7 9999 rfl rfl (calW (φs:= [both (agg [sl 1 strE s.actions,sl 2 stateE s.states]) tab]) (φ:=fre w0.heap.size (sl 1 intE (classesR s))) ⟨rfl,trivial⟩ (prog11.Of_ok s (by assumption)) T.ent40 (fun N hN=>fun h=>nw_mono (hN) h) (ag (ag (nl (th (rt ?_)))))))))))
  have hr0:(classesR s)=(clsOf s):=by
   unfold clsOf;rw[if_pos hc0]
  have hr1:(0:Int)=(errOf s):=by
   unfold errOf;rw[if_pos hc0]
  have hall:∀x0 x1,(classesR s)=x0→0=x1→resAV [fre w0.heap.size (sl 1 intE (classesR s)),int 0]=resAV [fre w0.heap.size (sl 1 intE x0),int x1]:=by rintro _ _ rfl rfl;rfl
  exact rE () [.tmp 2,.tmp 3] rfl [fre w0.heap.size (sl 1 intE (classesR s)),int 0] ⟨.tmp rfl,.tmp rfl,trivial⟩ (hall _ _ hr0 hr1) trivial (by first|exact .inr rfl|exact .inl rfl)
theorem Least_ok (s:SSpec) (hsm:smallSpec s):
 AL.Fn Tryd.prog 15 [tabbed (spec s)] [] (ι:=Unit) (fun N _=>tup [nspec N (lstOf s).1,fre N (ints (lstOf s).2),int (errOf s)]) (fun _=> []):=by
 refine fnI Tryd.func15 rfl rfl (fun w0 F0=> ?_)
 refine tbI 0 9999 rfl ?_
 refine fcC (inhS 0 rfl) (fun hS0=> ?_)
 obtain⟨hsa0,hss0,hse0⟩:=spec_lens hS0
 refine sq (rg (bx (key:=1) (cs:= [sl 1 strE s.actions,sl 2 stateE s.states]) rfl fun b1=>(al (key:=2) T.z25 (ex_cons (ex_cons (ex_nil))) fun b2=>(ag (ag (nl (th (sq (sq (rg (lPA rfl rfl T.agg25 rfl (cal0 (φs:= [agg [sl 1 strE s.actions,sl 2 stateE s.states]]) (φ:=bl (specOK s)) ⟨rfl,trivial⟩ (prog2.Valid_ok s (by assumption)) T.ent39 (no rfl (nl (th ?_)))))))))))))))
 refine cd rfl (fun hc0=> ?_) (fun hc0=> ?_)
 ·try simp at hc0
  refine sq (rg (bd (css:= []) T.st25 (ex_cons (ex_cons (ex_nil))) trivial (sPA (cs':= [eqv (.slice none 0 0),eqv (.slice none 0 0)]) rfl rfl rfl T.agg25 rfl rfl (ag (ag (nl (th (rt (rt_ ?_)))))))))
  refine kncA 2 0 (fre w0.heap.size (sl 1 strE [])) rfl rfl nw_nil ?_
  refine kncA 2 1 (fre w0.heap.size (sl 2 stateE [])) rfl rfl nw_nil ?_
  refine knA 3 (fre w0.heap.size (sl 1 intE [])) rfl nw_nil ?_
  have hr0: []=(((lstOf s).1).actions):=by
   unfold lstOf;rw[if_neg (by simp[hc0])]
  have hr1: []=(((lstOf s).1).states):=by
   unfold lstOf;rw[if_neg (by simp[hc0])]
  have hr2: []=((lstOf s).2):=by
   unfold lstOf;rw[if_neg (by simp[hc0])]
  have hr3:(30:Int)=(errOf s):=by
   unfold errOf;rw[if_neg (by simp[hc0])]
  have hall:∀x0 x1 x2 x3,[]=x0→[]=x1→[]=x2→30=x3→resAV [agg [fre w0.heap.size (sl 1 strE []),fre w0.heap.size (sl 2 stateE [])],fre w0.heap.size (sl 1 intE []),int 30]=resAV [agg [fre w0.heap.size (sl 1 strE x0),fre w0.heap.size (sl 2 stateE x1)],fre w0.heap.size (sl 1 intE x2),int x3]:=by rintro _ _ _ _ rfl rfl rfl rfl;rfl
  exact rE () [.cell 2 25,.tmp 3,.tmp 4] rfl [agg [fre w0.heap.size (sl 1 strE []),fre w0.heap.size (sl 2 stateE [])],fre w0.heap.size (sl 1 intE []),int 30] ⟨.agg rfl rfl T.agg25 rfl rfl,.tmp rfl,.tmp rfl,trivial⟩ (hall _ _ _ _ hr0 hr1 hr2 hr3) trivial (by first|exact .inr rfl|exact .inl rfl)
 ·try simp at hc0
  have hs:=okSpec_of hc0
  refine sk (th (sq (rg (lPA rfl rfl T.agg25 rfl (tbU (ψ:=tab) 12 9999 rfl rfl (calW (φs:= [both (agg [sl 1 strE s.actions,sl 2 stateE s.states]) tab]) (φ:=tup [agg [fre w0.heap.size (sl 1 strE (((leastR s).1).actions)),fre w0.heap.size (sl 2 stateE (((leastR s).1).states))],fre w0.heap.size (sl 1 intE ((leastR s).2))]) ⟨rfl,trivial⟩ (prog12.Merged_ok s (by assumption)) T.ent41 (fun N hN=>fun h=>tup_le (cs:= [agg [fre N (sl 1 strE (((leastR s).1).actions)),fre N (sl 2 stateE (((leastR s).1).states))],fre N (sl 1 intE ((leastR s).2))]) (ds:= [agg [fre w0.heap.size (sl 1 strE (((leastR s).1).actions)),fre w0.heap.size (sl 2 stateE (((leastR s).1).states))],fre w0.heap.size (sl 1 intE ((leastR s).2))]) ⟨fun h=>agg_le (cs:= [fre N (sl 1 strE (((leastR s).1).actions)),fre N (sl 2 stateE (((leastR s).1).states))]) (ds:= [fre w0.heap.size (sl 1 strE (((leastR s).1).actions)),fre w0.heap.size (sl 2 stateE (((leastR s).1).states))]) ⟨fun h=>nw_mono (hN) h,fun h=>nw_mono (hN) h,trivial⟩ h,fun h=>nw_mono (hN) h,trivial⟩ h) (mv (xt rfl rfl (xt rfl rfl (al (key:=5) T.z25 (ex_cons (ex_cons (ex_nil))) fun b5=>(sPA (cs':= [fre w0.heap.size (sl 1 strE (((leastR s).1).actions)),fre w0.heap.size (sl 2 stateE (((leastR s).1).states))]) rfl rfl rfl T.agg25 rfl rfl (ag (nl (th (sq (rg (lPA rfl rfl T.agg25 rfl (mv (sPA (cs':= [fre w0.heap.size (sl 1 strE (((leastR s).1).actions)),fre w0.heap.size (sl 2 stateE (((leastR s).1).states))]) rfl rfl rfl T.agg25 rfl rfl (ag (ag (nl (th (rt ?_))))))))))))))))))))))))
  have hr0:(((leastR s).1).actions)=(((lstOf s).1).actions):=by
   unfold lstOf;rw[if_pos hc0]
  have hr1:(((leastR s).1).states)=(((lstOf s).1).states):=by
   unfold lstOf;rw[if_pos hc0]
  have hr2:((leastR s).2)=((lstOf s).2):=by
   unfold lstOf;rw[if_pos hc0]
  have hr3:(0:Int)=(errOf s):=by
   unfold errOf;rw[if_pos hc0]
  have hall:∀x0 x1 x2 x3,(((leastR s).1).actions)=x0→(((leastR s).1).states)=x1→((leastR s).2)=x2→0=x3→resAV [agg [fre w0.heap.size (sl 1 strE (((leastR s).1).actions)),fre w0.heap.size (sl 2 stateE (((leastR s).1).states))],fre w0.heap.size (sl 1 intE ((leastR s).2)),int 0]=resAV [agg [fre w0.heap.size (sl 1 strE x0),fre w0.heap.size (sl 2 stateE x1)],fre w0.heap.size (sl 1 intE x2),int x3]:=by rintro _ _ _ _ rfl rfl rfl rfl;rfl
  exact rE () [.cell 2 25,.tmp 3,.tmp 4] rfl [agg [fre w0.heap.size (sl 1 strE (((leastR s).1).actions)),fre w0.heap.size (sl 2 stateE (((leastR s).1).states))],fre w0.heap.size (sl 1 intE ((leastR s).2)),int 0] ⟨.agg rfl rfl T.agg25 rfl rfl,.tmp rfl,.tmp rfl,trivial⟩ (hall _ _ _ _ hr0 hr1 hr2 hr3) trivial (by first|exact .inr rfl|exact .inl rfl)
theorem Is_ok (s:SSpec) (hsm:smallSpec s):
 Fn0 Tryd.prog 16 [tabbed (spec s)] (tup [bl (isOf s),int (errOf s)]):=by
 refine fnI Tryd.func16 rfl rfl (fun w0 F0=> ?_)
 refine tbI 0 9999 rfl ?_
 refine fcC (inhS 0 rfl) (fun hS0=> ?_)
 obtain⟨hsa0,hss0,hse0⟩:=spec_lens hS0
 refine sq (rg (bx (key:=1) (cs:= [sl 1 strE s.actions,sl 2 stateE s.states]) rfl fun b1=>(ag (ag (nl (th (sq (sq (rg (lPA rfl rfl T.agg25 rfl (cal0 (φs:= [agg [sl 1 strE s.actions,sl 2 stateE s.states]]) (φ:=bl (specOK s)) ⟨rfl,trivial⟩ (prog2.Valid_ok s (by assumption)) T.ent39 (no rfl (nl (th ?_))))))))))))))
 refine cd rfl (fun hc0=> ?_) (fun hc0=> ?_)
 ·try simp at hc0
  refine sq (rg (ag (ag (nl (th (rt (rt_ ?_)))))))
  have hr0:false=(isOf s):=by
   unfold isOf;rw[hc0];rfl
  have hr1:(30:Int)=(errOf s):=by
   unfold errOf;rw[if_neg (by simp[hc0])]
  have hall:∀x0 x1,false=x0→30=x1→resAV [bl false,int 30]=resAV [bl x0,int x1]:=by rintro _ _ rfl rfl;rfl
  exact rE () [.tmp 2,.tmp 3] rfl [bl false,int 30] ⟨.tmp rfl,.tmp rfl,trivial⟩ (hall _ _ hr0 hr1) trivial (by first|exact .inr rfl|exact .inl rfl)
 ·try simp at hc0
  have hs:=okSpec_of hc0
  refine sk (th (sq (rg (lPA rfl rfl T.agg25 rfl (tbU (ψ:=tab) 10 9999 rfl rfl (calW (φs:= [both (agg [sl 1 strE s.actions,sl 2 stateE s.states]) tab]) (φ:=tup [agg [sl 1 strE (((leastR s).1).actions),sl 2 stateE (((leastR s).1).states)],sl 1 intE ((leastR s).2)]) ⟨rfl,trivial⟩ (prog12.Merged_ok s (by assumption)) T.ent41 (fun N hN=>fun h=>tup_le (cs:= [agg [fre N (sl 1 strE (((leastR s).1).actions)),fre N (sl 2 stateE (((leastR s).1).states))],fre N (sl 1 intE ((leastR s).2))]) (ds:= [agg [sl 1 strE (((leastR s).1).actions),sl 2 stateE (((leastR s).1).states)],sl 1 intE ((leastR s).2)]) ⟨fun h=>agg_le (cs:= [fre N (sl 1 strE (((leastR s).1).actions)),fre N (sl 2 stateE (((leastR s).1).states))]) (ds:= [sl 1 strE (((leastR s).1).actions),sl 2 stateE (((leastR s).1).states)]) ⟨fun h=>nw_le h,fun h=>nw_le h,trivial⟩ h,fun h=>nw_le h,trivial⟩ h) (mv (xt rfl rfl (xt rfl rfl (al (key:=4) T.z25 (ex_cons (ex_cons (ex_nil))) fun b4=>(sPA (cs':= [sl 1 strE (((leastR s).1).actions),sl 2 stateE (((leastR s).1).states)]) rfl rfl rfl T.agg25 rfl rfl (ag (nl (th (sq (rg (lPA rfl rfl T.agg25 rfl (lPA rfl rfl T.agg25 rfl (cal0 (φs:= [agg [sl 1 strE s.actions,sl 2 stateE s.states],agg [sl 1 strE (((leastR s).1).actions),sl 2 stateE (((leastR s).1).states)]]) (φ:=bl (decide (s=((leastR s).1)))) ⟨rfl,rfl,trivial⟩ (prog3.Same_ok s ((leastR s).1)) T.ent42 (ag (ag (nl (th (rt ?_))))))))))))))))))))))))
  have hr0:(decide (s=((leastR s).1)))=(isOf s):=by
   unfold isOf;rw[hc0];rfl
  have hr1:(0:Int)=(errOf s):=by
   unfold errOf;rw[if_pos hc0]
  have hall:∀x0 x1,(decide (s=((leastR s).1)))=x0→0=x1→resAV [bl (decide (s=((leastR s).1))),int 0]=resAV [bl x0,int x1]:=by rintro _ _ rfl rfl;rfl
  exact rE () [.tmp 2,.tmp 3] rfl [bl (decide (s=((leastR s).1))),int 0] ⟨.tmp rfl,.tmp rfl,trivial⟩ (hall _ _ hr0 hr1) trivial (by first|exact .inr rfl|exact .inl rfl)
end prog13
end Go.Proofs.YtolpjmllmlahfaaDoor
namespace Go.Proofs.YtolpjmllmlahfaaDoor
open AL ref01 ref03 ref04 ref06 Part Rungs LeftM TrimM Itoa Keys RoundM MergeM
namespace RingM
def ringS:SSpec:=⟨[⟨#[97]⟩],[⟨[1],[1]⟩,⟨[1],[0]⟩]⟩
def ringT:SSpec:=⟨[⟨#[97]⟩],[⟨[1],[0]⟩]⟩
theorem ring_is:specOK ringS=true:=by decide
theorem ring_ok:okSpec ringS:=okSpec_of ring_is
theorem ring_hol (x:Nat) (hx:x<2):ix (hollow ringS) x=false:=by
 cases hv:ix (hollow ringS) x with
 |false=>rfl
 |true=>
  exfalso
  have h:=(hollow_ix (s:=ringS) hx).1 hv
  refine h (fun _=>False) (fun y hy hc=> ?_)
  have hy:y<2:=hy
  have hl:0<(ix ringS.states y).accept.length:=by
   rcases(show y=0∨y=1 by omega) with rfl|rfl<;>decide
  obtain⟨_,_,_,_,h⟩:=hc 0 hl
  exact h
theorem ring_hollow:hollow ringS= [false,false]:=by
 have hl:=hollow_len ringS
 have hl:(hollow ringS).length=2:=hl
 apply List.ext_getElem?
 intro i
 by_cases hi:i<2
 ·rw[List.getElem?_eq_getElem (by omega),←ix_get (by omega),ring_hol i hi]
  rcases(show i=0∨i=1 by omega) with rfl|rfl<;>rfl
 ·rw[List.getElem?_eq_none (by omega),List.getElem?_eq_none (by simp;omega)]
theorem ring_keep0:keep ringS 0= [1]:=by
 unfold keep;rw[ring_hollow];decide
theorem ring_keep1:keep ringS 1= [1]:=by
 unfold keep;rw[ring_hollow];decide
theorem ring_solid:solid ringS=ringS:=by
 have h0:solidState ringS 0=⟨[1],[1]⟩:=by unfold solidState;rw[ring_keep0];decide
 have h1:solidState ringS 1=⟨[1],[0]⟩:=by unfold solidState;rw[ring_keep1];decide
 have:(solid ringS).states= [solidState ringS 0,solidState ringS 1]:=rfl
 apply SSpec.ext
 ·rfl
 ·rw[this,h0,h1];rfl
theorem ring_it1:itR ringS 1=([0,0],1):=by
 show((numBy (alike (solid ringS) (itR ringS 0).1) ringS.states.length).1,(numBy (alike (solid ringS) (itR ringS 0).1) ringS.states.length).2.length)=_
 rw[ring_solid];decide
theorem ring_it2:itR ringS 2=([0,0],1):=by
 show((numBy (alike (solid ringS) (itR ringS 1).1) ringS.states.length).1,(numBy (alike (solid ringS) (itR ringS 1).1) ringS.states.length).2.length)=_
 rw[ring_solid,ring_it1];decide
theorem ring_it3:itR ringS 3=([0,0],1):=by
 show((numBy (alike (solid ringS) (itR ringS 2).1) ringS.states.length).1,(numBy (alike (solid ringS) (itR ringS 2).1) ringS.states.length).2.length)=_
 rw[ring_solid,ring_it2];decide
theorem ring_classes:classesR ringS= [0,0]:=by
 show(itR ringS 3).1=_
 rw[ring_it3]
theorem ring_least:leastR ringS=(ringT,[0,0]):=by
 unfold leastR
 rw[if_neg (by rw[ring_hol 0 (by omega)];simp),ring_solid,ring_classes]
 decide
theorem ring_small (k:Nat) (hk:k<ringS.states.length) (i:Nat) (hi:i<(ix ringS.states k).accept.length):ix (ix ringS.states k).accept i<2^63:=by
 have hk:k<2:=hk
 rcases(show k=0∨k=1 by omega) with rfl|rfl
 ·have hi:i<1:=hi
  have:i=0:=by omega
  subst this;decide
 ·have hi:i<1:=hi
  have:i=0:=by omega
  subst this;decide
end RingM
end Go.Proofs.YtolpjmllmlahfaaDoor
namespace Go.Proofs.YtolpjmllmlahfaaDoor
open AL Go
set_option maxRecDepth 100000
set_option linter.all false
open ref01 ref03 ref04 ref06 prog prog2 prog3 prog4 prog5 prog6 prog7 prog8 prog9 prog10 prog11 prog12 prog13 Part Rungs LeftM TrimM Itoa Keys RoundM MergeM RingM
def lightS (s:SSpec):Bool:=decide ((s.states.length:Int)≤40)&&few s 1000
theorem light_size {s:SSpec} (h:lightS s=true):size s≤1000:=by
 unfold lightS few at h
 simp only [Bool.and_eq_true,decide_eq_true_eq] at h
 omega
theorem awake_val:(((((((decide (errOf ringS=0)&&decide (((lstOf ringS).1.states.length:Int)=1))&&decide ((lstOf ringS).2= [0,0]))&&decide (errOf ringS=0))&&decide (clsOf ringS= [0,0]))&&decide (errOf ringS=0))&& !isOf ringS))=true:=by
 have h:=ring_is
 unfold errOf lstOf clsOf isOf
 rw[if_pos h,if_pos h,if_pos h,ring_least,ring_classes]
 decide
namespace T
theorem ent30:Ent Tryd.prog 30:=ent_of (by kernel_rfl)
theorem ent31:Ent Tryd.prog 31:=ent_of (by kernel_rfl)
theorem ent15:Ent Tryd.prog 15:=ent_of (by kernel_rfl)
theorem ent13:Ent Tryd.prog 13:=ent_of (by kernel_rfl)
theorem ent16:Ent Tryd.prog 16:=ent_of (by kernel_rfl)
theorem ent8:Ent Tryd.prog 8:=ent_of (by kernel_rfl)
theorem ent9:Ent Tryd.prog 9:=ent_of (by kernel_rfl)
theorem ent12:Ent Tryd.prog 12:=ent_of (by kernel_rfl)
theorem ent14:Ent Tryd.prog 14:=ent_of (by kernel_rfl)
theorem ent19:Ent Tryd.prog 19:=ent_of (by kernel_rfl)
end T
namespace prog14
theorem light_ok (s:SSpec):
 Fn0 Tryd.prog 8 [spec s] (bl (lightS s)):=by
 refine fnI Tryd.func8 rfl rfl (fun w0 F0=> ?_)
 refine fcC (inhS 0 rfl) (fun hS0=> ?_)
 obtain⟨hsa0,hss0,hse0⟩:=spec_lens hS0
 refine sq (rg (bx (key:=1) (cs:= [sl 1 strE s.actions,sl 2 stateE s.states]) rfl fun b1=>(ag (nl (th (sq (rg (fP rfl T.fld25_1 (lP rfl rfl rfl T.one23 (fc (slenI 4 rfl) fun hm4=>(lnF rfl T.sl23 (bi rfl rfl b_leq (mv ?_)))))))))))))
 apply gAnd (t:=7) (pd:=10) rfl
 rotate_left
 ·intro hg0 fin
  have hg0':=hg0
  try simp at hg0'
  exact gy rfl rfl rfl hg0 (lPA rfl rfl T.agg25 rfl (gy rfl rfl rfl hg0 (cal0 (φs:= [agg [sl 1 strE s.actions,sl 2 stateE s.states],int 1000]) (φ:=bl (few s 1000)) ⟨rfl,rfl,trivial⟩ (ref03.Few_ok s _ (by omega)) T.ent30 (pkT rfl hg0 rfl (drp (X:= [(9,_),(8,_)]) ⟨rfl,rfl,trivial⟩ (fin))))))
 ·intro hg0 fin
  exact gn rfl rfl rfl hg0 rfl rfl (gn rfl rfl rfl hg0 rfl rfl (pkF rfl hg0 rfl (drp (X:= [(9,_),(8,_)]) ⟨rfl,rfl,trivial⟩ (fin))))
 refine ag (nl (th (rt ?_)))
 have hr0:((decide ((s.states.length:Int)≤40))&&(few s 1000))=(lightS s):=by
  rfl
 have hall:∀x0,((decide ((s.states.length:Int)≤40))&&(few s 1000))=x0→resAV [bl ((decide ((s.states.length:Int)≤40))&&(few s 1000))]=resAV [bl x0]:=by rintro _ rfl;rfl
 exact rE () [.tmp 2] rfl [bl ((decide ((s.states.length:Int)≤40))&&(few s 1000))] ⟨.tmp rfl,trivial⟩ (hall _ hr0) trivial (by first|exact .inr rfl|exact .inl rfl)
theorem ring_ok:
 Fn0 Tryd.prog 31 [] (spec ringS):=by
 refine fnI Tryd.func31 rfl rfl (fun w0 F0=> ?_)
 refine sq (rg (al (key:=0) T.z25 (ex_cons (ex_cons (ex_nil))) fun b0=>(nl (th (sq (rg (bsE (enc:=strE) (xs:= [({ data:= #[97] })]) (css:= [[str ({ data:= #[97] })]]) T.mk22 ⟨rfl,rfl,p1 (φ:=str ({ data:= #[97] })) rfl,trivial⟩ rfl rfl rfl rfl (bsE (enc:=intE) (xs:= [1]) (css:= [[int 1]]) T.mk28 ⟨rfl,rfl,p1 (φ:=int 1) rfl,trivial⟩ rfl rfl rfl rfl (bsE (enc:=intE) (xs:= [1]) (css:= [[int 1]]) T.mk28 ⟨rfl,rfl,p1 (φ:=int 1) rfl,trivial⟩ rfl rfl rfl rfl (bd (css:= [(0,_),(1,_)]) T.st69 (ex_cons (ex_cons (ex_nil))) ⟨rfl,rfl,p1 (φ:=sl 1 intE [1]) rfl,⟨rfl,rfl,p1 (φ:=sl 1 intE [1]) rfl,trivial⟩⟩ (bsE (enc:=intE) (xs:= [1]) (css:= [[int 1]]) T.mk28 ⟨rfl,rfl,p1 (φ:=int 1) rfl,trivial⟩ rfl rfl rfl rfl (bsE (enc:=intE) (xs:= [0]) (css:= [[int 0]]) T.mk28 ⟨rfl,rfl,p1 (φ:=int 0) rfl,trivial⟩ rfl rfl rfl rfl (bd (css:= [(0,_),(1,_)]) T.st69 (ex_cons (ex_cons (ex_nil))) ⟨rfl,rfl,p1 (φ:=sl 1 intE [1]) rfl,⟨rfl,rfl,p1 (φ:=sl 1 intE [0]) rfl,trivial⟩⟩ (bsE (enc:=stateE) (xs:= [(⟨[1],[1]⟩),(⟨[1],[0]⟩)]) (css:= [[sl 1 intE [1],sl 1 intE [1]],[sl 1 intE [1],sl 1 intE [0]]]) T.mk23 ⟨rfl,rfl,pA (cs:= [sl 1 intE [1],sl 1 intE [1]]) rfl,⟨rfl,rfl,pA (cs:= [sl 1 intE [1],sl 1 intE [0]]) rfl,trivial⟩⟩ rfl rfl rfl rfl (bd (css:= [(0,_),(1,_)]) T.st25 (ex_cons (ex_cons (ex_nil))) ⟨rfl,rfl,p1 (φ:=sl 1 strE [({ data:= #[97] })]) rfl,⟨rfl,rfl,p1 (φ:=sl 2 stateE [(⟨[1],[1]⟩),(⟨[1],[0]⟩)]) rfl,trivial⟩⟩ (sPA (cs':= [sl 1 strE [({ data:= #[97] })],sl 2 stateE [(⟨[1],[1]⟩),(⟨[1],[0]⟩)]]) rfl rfl rfl T.agg25 rfl rfl (nl (th (rt ?_)))))))))))))))))))
 have hr0: [({ data:= #[97] })]=ringS.actions:=by
  first|rfl|simp_all|omega
 have hr1: [(⟨[1],[1]⟩),(⟨[1],[0]⟩)]=ringS.states:=by
  first|rfl|simp_all|omega
 have hall:∀x0 x1,[({ data:= #[97] })]=x0→[(⟨[1],[1]⟩),(⟨[1],[0]⟩)]=x1→resAV [agg [sl 1 strE [({ data:= #[97] })],sl 2 stateE [(⟨[1],[1]⟩),(⟨[1],[0]⟩)]]]=resAV [agg [sl 1 strE x0,sl 2 stateE x1]]:=by rintro _ _ rfl rfl;rfl
 exact rE () [.cell 0 25] rfl [agg [sl 1 strE [({ data:= #[97] })],sl 2 stateE [(⟨[1],[1]⟩),(⟨[1],[0]⟩)]]] ⟨.agg rfl rfl T.agg25 rfl rfl,trivial⟩ (hall _ _ hr0 hr1) trivial (by first|exact .inr rfl|exact .inl rfl)
theorem awake_ok:
 AL.Fn Tryd.prog 9 [] [(998,ambH tab)] (ι:=Unit) (fun _ _=>bl true) (fun _=> []):=by
 refine fnI Tryd.func9 rfl rfl (fun w0 F0=> ?_)
 have hsm:smallSpec ringS:=ring_small
 refine tbH 9999 998 rfl ?_
 refine sq (rg (ag (nl (th (sq (rg (cal0 (φs:= []) (φ:=agg [sl 1 strE ringS.actions,sl 2 stateE ringS.states]) trivial (prog14.ring_ok) T.ent31 (tbU (ψ:=tab) 9 9999 rfl rfl (calW (φs:= [both (agg [sl 1 strE ringS.actions,sl 2 stateE ringS.states]) tab]) (φ:=tup [agg [sl 1 strE (((lstOf ringS).1).actions),sl 2 stateE (((lstOf ringS).1).states)],sl 1 intE ((lstOf ringS).2),int (errOf ringS)]) ⟨rfl,trivial⟩ (prog13.Least_ok ringS (by assumption)) T.ent15 (fun N hN=>fun h=>tup_le (cs:= [agg [fre N (sl 1 strE (((lstOf ringS).1).actions)),fre N (sl 2 stateE (((lstOf ringS).1).states))],fre N (sl 1 intE ((lstOf ringS).2)),int (errOf ringS)]) (ds:= [agg [sl 1 strE (((lstOf ringS).1).actions),sl 2 stateE (((lstOf ringS).1).states)],sl 1 intE ((lstOf ringS).2),int (errOf ringS)]) ⟨fun h=>agg_le (cs:= [fre N (sl 1 strE (((lstOf ringS).1).actions)),fre N (sl 2 stateE (((lstOf ringS).1).states))]) (ds:= [sl 1 strE (((lstOf ringS).1).actions),sl 2 stateE (((lstOf ringS).1).states)]) ⟨fun h=>nw_le h,fun h=>nw_le h,trivial⟩ h,fun h=>nw_le h,fun h=>h,trivial⟩ h) (mv (xt rfl rfl (xt rfl rfl (xt rfl rfl (al (key:=1) T.z25 (ex_cons (ex_cons (ex_nil))) fun b1=>(sPA (cs':= [sl 1 strE (((lstOf ringS).1).actions),sl 2 stateE (((lstOf ringS).1).states)]) rfl rfl rfl T.agg25 rfl rfl (ag (ag (nl (th (sq (rg (cal0 (φs:= []) (φ:=agg [sl 1 strE ringS.actions,sl 2 stateE ringS.states]) trivial (prog14.ring_ok) T.ent31 (tbU (ψ:=tab) 15 9999 rfl rfl (calW (φs:= [both (agg [sl 1 strE ringS.actions,sl 2 stateE ringS.states]) tab]) (φ:=tup [sl 1 intE (clsOf ringS),int (errOf ringS)]) ⟨rfl,trivial⟩ (prog13.Classes_ok ringS (by assumption)) T.ent13 (fun N hN=>fun h=>tup_le (cs:= [fre N (sl 1 intE (clsOf ringS)),int (errOf ringS)]) (ds:= [sl 1 intE (clsOf ringS),int (errOf ringS)]) ⟨fun h=>nw_le h,fun h=>h,trivial⟩ h) (mv (xt rfl rfl (xt rfl rfl (ag (ag (nl (th (sq (rg (cal0 (φs:= []) (φ:=agg [sl 1 strE ringS.actions,sl 2 stateE ringS.states]) trivial (prog14.ring_ok) T.ent31 (tbU (ψ:=tab) 20 9999 rfl rfl (cal0 (φs:= [both (agg [sl 1 strE ringS.actions,sl 2 stateE ringS.states]) tab]) (φ:=tup [bl (isOf ringS),int (errOf ringS)]) ⟨rfl,trivial⟩ (prog13.Is_ok ringS (by assumption)) T.ent16 (mv (xt rfl rfl (xt rfl rfl (ag (ag (nl (th (sq (rg (mv (bi rfl rfl b_eql (mv ?_))))))))))))))))))))))))))))))))))))))))))))))))
 apply gAnd (t:=26) (pd:=31) rfl
 rotate_left
 ·intro hg0 fin
  have hg0':=hg0
  try simp at hg0'
  exact gy rfl rfl rfl hg0 (fP rfl T.fld25_1 (gy rfl rfl rfl hg0 (lP rfl rfl rfl T.one23 (gy rfl rfl rfl hg0 (fc (slenI 28 rfl) fun hm28=>(lnF rfl T.sl23 (gy rfl rfl rfl hg0 (bi rfl rfl b_eql (pkT rfl hg0 rfl (drp (X:= [(30,_),(29,_),(28,_),(27,_)]) ⟨rfl,rfl,rfl,rfl,trivial⟩ (fin)))))))))))
 ·intro hg0 fin
  exact gn rfl rfl rfl hg0 rfl rfl (gn rfl rfl rfl hg0 rfl rfl (gn rfl rfl rfl hg0 rfl rfl (gn rfl rfl rfl hg0 rfl rfl (pkF rfl hg0 rfl (drp (X:= [(30,_),(29,_),(28,_),(27,_)]) ⟨rfl,rfl,rfl,rfl,trivial⟩ (fin))))))
 refine mv ?_
 apply gAnd (t:=32) (pd:=36) rfl
 rotate_left
 ·intro hg1 fin
  have hg1':=hg1
  try simp at hg1'
  exact gy rfl rfl rfl hg1 (mv (gy rfl rfl rfl hg1 (bsE (enc:=intE) (xs:= [0,0]) (css:= [[int 0],[int 0]]) T.mk28 ⟨rfl,rfl,p1 (φ:=int 0) rfl,⟨rfl,rfl,p1 (φ:=int 0) rfl,trivial⟩⟩ rfl rfl rfl rfl (gy rfl rfl rfl hg1 (cal0 (φs:= [sl 1 intE ((lstOf ringS).2),sl 1 intE [0,0]]) (φ:=bl (decide (((lstOf ringS).2)= [0,0]))) ⟨rfl,rfl,trivial⟩ (ref01.SameInts_ok _ _) T.ent18 (pkT rfl hg1 rfl (drp (X:= [(35,_),(34,_),(33,_)]) ⟨rfl,rfl,rfl,trivial⟩ (fin))))))))
 ·intro hg1 fin
  exact gn rfl rfl rfl hg1 rfl rfl (gn rfl rfl rfl hg1 rfl rfl (gn rfl rfl rfl hg1 rfl rfl (pkF rfl hg1 rfl (drp (X:= [(35,_),(34,_),(33,_)]) ⟨rfl,rfl,rfl,trivial⟩ (fin)))))
 refine mv ?_
 apply gAnd (t:=37) (pd:=40) rfl
 rotate_left
 ·intro hg2 fin
  have hg2':=hg2
  try simp at hg2'
  exact gy rfl rfl rfl hg2 (mv (gy rfl rfl rfl hg2 (bi rfl rfl b_eql (pkT rfl hg2 rfl (drp (X:= [(39,_),(38,_)]) ⟨rfl,rfl,trivial⟩ (fin))))))
 ·intro hg2 fin
  exact gn rfl rfl rfl hg2 rfl rfl (gn rfl rfl rfl hg2 rfl rfl (pkF rfl hg2 rfl (drp (X:= [(39,_),(38,_)]) ⟨rfl,rfl,trivial⟩ (fin))))
 refine mv ?_
 apply gAnd (t:=41) (pd:=45) rfl
 rotate_left
 ·intro hg3 fin
  have hg3':=hg3
  try simp at hg3'
  exact gy rfl rfl rfl hg3 (mv (gy rfl rfl rfl hg3 (bsE (enc:=intE) (xs:= [0,0]) (css:= [[int 0],[int 0]]) T.mk28 ⟨rfl,rfl,p1 (φ:=int 0) rfl,⟨rfl,rfl,p1 (φ:=int 0) rfl,trivial⟩⟩ rfl rfl rfl rfl (gy rfl rfl rfl hg3 (cal0 (φs:= [sl 1 intE (clsOf ringS),sl 1 intE [0,0]]) (φ:=bl (decide ((clsOf ringS)= [0,0]))) ⟨rfl,rfl,trivial⟩ (ref01.SameInts_ok _ _) T.ent18 (pkT rfl hg3 rfl (drp (X:= [(44,_),(43,_),(42,_)]) ⟨rfl,rfl,rfl,trivial⟩ (fin))))))))
 ·intro hg3 fin
  exact gn rfl rfl rfl hg3 rfl rfl (gn rfl rfl rfl hg3 rfl rfl (gn rfl rfl rfl hg3 rfl rfl (pkF rfl hg3 rfl (drp (X:= [(44,_),(43,_),(42,_)]) ⟨rfl,rfl,rfl,trivial⟩ (fin)))))
 refine mv ?_
 apply gAnd (t:=46) (pd:=49) rfl
 rotate_left
 ·intro hg4 fin
  have hg4':=hg4
  try simp at hg4'
  exact gy rfl rfl rfl hg4 (mv (gy rfl rfl rfl hg4 (bi rfl rfl b_eql (pkT rfl hg4 rfl (drp (X:= [(48,_),(47,_)]) ⟨rfl,rfl,trivial⟩ (fin))))))
 ·intro hg4 fin
  exact gn rfl rfl rfl hg4 rfl rfl (gn rfl rfl rfl hg4 rfl rfl (pkF rfl hg4 rfl (drp (X:= [(48,_),(47,_)]) ⟨rfl,rfl,trivial⟩ (fin))))
 refine mv ?_
 apply gAnd (t:=50) (pd:=53) rfl
 rotate_left
 ·intro hg5 fin
  have hg5':=hg5
  try simp at hg5'
  exact gy rfl rfl rfl hg5 (mv (gy rfl rfl rfl hg5 (no rfl (pkT rfl hg5 rfl (drp (X:= [(52,_),(51,_)]) ⟨rfl,rfl,trivial⟩ (fin))))))
 ·intro hg5 fin
  exact gn rfl rfl rfl hg5 rfl rfl (gn rfl rfl rfl hg5 rfl rfl (pkF rfl hg5 rfl (drp (X:= [(52,_),(51,_)]) ⟨rfl,rfl,trivial⟩ (fin))))
 refine ag (nl (th (rt ?_)))
 have hr0:(((((((decide ((errOf ringS)=0))&&(decide (((((lstOf ringS).1).states).length:Int)=1)))&&(decide (((lstOf ringS).2)= [0,0])))&&(decide ((errOf ringS)=0)))&&(decide ((clsOf ringS)= [0,0])))&&(decide ((errOf ringS)=0)))&&(!(isOf ringS)))=true:=by
  exact awake_val
 have hall:∀x0,(((((((decide ((errOf ringS)=0))&&(decide (((((lstOf ringS).1).states).length:Int)=1)))&&(decide (((lstOf ringS).2)= [0,0])))&&(decide ((errOf ringS)=0)))&&(decide ((clsOf ringS)= [0,0])))&&(decide ((errOf ringS)=0)))&&(!(isOf ringS)))=x0→resAV [bl (((((((decide ((errOf ringS)=0))&&(decide (((((lstOf ringS).1).states).length:Int)=1)))&&(decide (((lstOf ringS).2)= [0,0])))&&(decide ((errOf ringS)=0)))&&(decide ((clsOf ringS)= [0,0])))&&(decide ((errOf ringS)=0)))&&(!(isOf ringS)))]=resAV [bl x0]:=by rintro _ rfl;rfl
 exact rE () [.tmp 0] rfl [bl (((((((decide ((errOf ringS)=0))&&(decide (((((lstOf ringS).1).states).length:Int)=1)))&&(decide (((lstOf ringS).2)= [0,0])))&&(decide ((errOf ringS)=0)))&&(decide ((clsOf ringS)= [0,0])))&&(decide ((errOf ringS)=0)))&&(!(isOf ringS)))] ⟨.tmp rfl,trivial⟩ (hall _ hr0) trivial (by first|exact .inr rfl|exact .inl rfl)
end prog14
end Go.Proofs.YtolpjmllmlahfaaDoor
