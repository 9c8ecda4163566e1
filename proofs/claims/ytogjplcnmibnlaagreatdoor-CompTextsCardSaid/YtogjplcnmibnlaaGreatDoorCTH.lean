/- Members of rows of strings. -/
import Derived.Test.YtogjplcnmibnlaaGreatDoorCA
import Derived.Sort.EncStr
set_option autoImplicit false
set_option maxRecDepth 100000
set_option linter.unusedSimpArgs false
set_option linter.unusedVariables false
set_option linter.unusedSectionVars false
namespace Go.Proofs.YtogjplcnmibnlaaGreatDoor.Tr
open Go.Proofs.YtogjplcnmibnlaaGreatDoor.Env Go.Ev Go.Ev.Nd
attribute [local simp] bC aX bA bT aL aN aQ bX bF bW dE cD aV AV.cells aG aZ val aH bN bP cP bG eI aU aO aM bY bI recheck H.new H.put cT aY bB AV.one setArgs bQ bS bJ aR aP bK
def idxS (v:List Nat):List Str→Nat→Int
 | [],_ => -1
 | t::l,i=>bif aB v t.s then ↑i else idxS v l (i+1)
theorem idxS_neg {v:List Nat}:∀ {l:List Str} (i:Nat),ltI (idxS v l i) 0 = !dA l v
 | [],i=>rfl
 | t::l,i=>by
  simp only[idxS,dA,List.any_cons]
  cases hb:aB v t.s with
  | true=>simp only[cond_true,Bool.true_or,Bool.not_true,dI];simp
  | false=>simp only[cond_false,Bool.false_or];exact idxS_neg (l:=l) (i+1)
noncomputable def b37_0:Code:=aK Tryz.f34 0
theorem body37:Tryz.f34.body=some (.seq (aC Tryz.f34 [0]) (.seq (.seq (aC Tryz.f34 [1,0,0]) (.block 0 (.loop b37_0))) (aC Tryz.f34 [1,1]))):=rfl
theorem loop37 {E:Env} (hty:E.ty=env.ty) (hpl:E.plan=env.plan) {o:Own} {L:List Str} {v:List Nat} (hl:L.length≤9223372036854775807):∀ (l:List Str) (i:Nat) {tm:Tm} {h:H} {x:Option (Ex × Tm × H)},cdL E 34 19 (.loop b37_0) tm h=x→l=L.drop i→i≤L.length →
  tm.get 0=some (.sl o (strs L))→tm.get 1=some (.str v)→tm.get 7=some (.int .i64 ↑L.length)→tm.get 8=some (.int .i64 ↑i)→∃ tm',x=some (bif dA l v then .ret else .exit 0,tm',h)∧(dA l v=true→tm'.get 4=some (.int .i64 (idxS v l i)))
 | [],i,tm,h,x,hx,hd,hi,h0,h1,h7,h8=>by
  have hlen:=dnil hd hi
  obtain⟨R,hR,hx⟩:=aS hx
  simp[b37_0,aK,Tryz.f34,loops,EVT,lp,hty,h7,h8,hlen,dZ]at hx
  exact⟨_,by rw[←hx];rfl,by simp[dA]⟩
 | c::l,i,tm,h,x,hx,hd,hi,h0,h1,h7,h8=>by
  obtain⟨hlt,hc,hd'⟩:=gC hd
  have hat:=strs_get hc
  obtain⟨R,hR,hx⟩:=aS hx
  have hlt':=eR hlt
  have hw:=cH (i:=i) (by omega)
  cases hb:aB v c.s with
  | true=>
   simp[b37_0,aK,Tryz.f34,loops,EVT,TYC,lp,hty,h0,h1,h7,h8,hlt',hat,hb]at hx
   exact⟨_,by rw[←hx];simp[dA,hb];rfl,by simp[T.aA,idxS,hb]⟩
  | false=>
   simp[b37_0,aK,Tryz.f34,loops,EVT,TYC,lp,hty,h0,h1,h7,h8,hlt',hat,hb,hw]at hx
   rw[hR]at hx
   have e:dA (c::l) v=dA l v:=by simp[dA,hb]
   have e2:idxS v (c::l) i=idxS v l (i+1):=by simp[idxS,hb]
   rw[e,e2]
   exact loop37 hty hpl (o:=o) (v:=v) hl l (i+1) hx hd' hlt (by simp[T.aA,h0]) (by simp[T.aA,h1]) (by simp[T.aA,h7]) (by simp[T.aA])
theorem index_run {E:Env} (hty:E.ty=env.ty) (hpl:E.plan=env.plan) (hp:E.prim 34=none) (hfn:E.fns 34=some Tryz.f34) (o:Own) (L:List Str) (v:List Nat) (hl:L.length≤9223372036854775807) (h:H):evL E 34 [.sl o (strs L),.str v] h=some (.int .i64 (idxS v L 0),h):=by
 have hil:=cA L
 rw[bE E hp hfn body37 _ _ rfl]
 simp only[aC,sub,Tryz.f34]
 simp[EVT,aT,TYC,hty,hil]
 generalize hx:cdL E 34 19 (.loop b37_0) _ _=x
 obtain⟨tm',rfl,g⟩:=loop37 hty hpl (o:=o) (v:=v) hl L 0 hx rfl (Nat.zero_le _) (by simp[T.aA]) (by simp[T.aA]) (by simp[T.aA]) (by simp[T.aA])
 cases hb:dA L v with
 | true=>simp[g hb]
 | false=>
  have:∀ (l:List Str) (i:Nat),dA l v=false→idxS v l i = -1:=by
   intro l
   induction l with
   | nil=>intro i _;rfl
   | cons t l ih=>
    intro i hh
    simp only[dA,List.any_cons,Bool.or_eq_false_iff]at hh
    simp only[idxS,hh.1,cond_false]
    exact ih (i+1) hh.2
  rw[this L 0 hb]
  simp[EVT]
noncomputable abbrev pHasS:=cF (eA (Rel2 (fun (L:List Str) (_:Str)=>L.length≤9223372036854775807) (fun L v=>dA L v.s)))
theorem cHas {E:Env} {f:Nat} (hp:E.prim f=some pHasS) (o:Own) (L:List Str) (v:List Nat) (hl:L.length≤9223372036854775807) (h:H):evL E f [.sl o (strs L),.str v] h=some (.bool (dA L v),h):=
 prim2_call (α:=List Str) (β:=Str) (a:=L) (b:=⟨v⟩) hp (strs_bare 0 o L) (by simp[AV.wk,Enc.enc]) hl h
theorem p27_ok:cJ Tryz.prog 18 pHasS:=prim2_ok env_ok (fn:=Tryz.f18) (by kernel_rfl) rfl (by kernel_rfl) fun L v hl=>by
 have k37:=fun h=>index_run (E:=env) rfl rfl (by kernel_rfl) (by kernel_rfl) .no L v.s hl h
 have hb:=idxS_neg (v:=v.s) (l:=L) 0
 rw[strs_enc,show(Enc.enc v:AV) = .str v.s from rfl,show(Enc.enc (dA L v.s):AV) = .bool (dA L v.s) from rfl]
 unfold bodyL
 simp only[Tryz.f18]
 simp[EVT,aT,k37,hb,AV.wk]
noncomputable def b40_0:Code:=aK Tryz.f25 0
theorem body40:Tryz.f25.body=some (.seq (aC Tryz.f25 [0]) (.seq (.seq (aC Tryz.f25 [1,0,0]) (.block 0 (.loop b40_0))) (aC Tryz.f25 [1,1]))):=rfl
theorem loop40 {o:Own} {L:List Str} {v:List Nat} (hl:L.length≤9223372036854775807):∀ (l:List Str) (i:Nat) {tm:Tm} {h:H} {x:Option (Ex × Tm × H)},cdL env 25 18 (.loop b40_0) tm h=x→l=L.drop i→i≤L.length →
  tm.get 0=some (.sl o (strs L))→tm.get 1=some (.str v)→tm.get 5=some (.int .i64 ↑i)→∃ tm',x=some (bif dA l v then .ret else .exit 0,tm',h)∧(dA l v=true→tm'.get 4=some (.bool true))
 | [],i,tm,h,x,hx,hd,hi,h0,h1,h5=>by
  have hlen:=dnil hd hi
  have hil:=cA L
  rw[hlen]at hil
  obtain⟨R,hR,hx⟩:=aS hx
  simp[b40_0,aK,Tryz.f25,loops,EVT,TYC,lp,h0,h5,hil,dZ]at hx
  exact⟨_,by rw[←hx];rfl,by simp[dA]⟩
 | c::l,i,tm,h,x,hx,hd,hi,h0,h1,h5=>by
  obtain⟨hlt,hc,hd'⟩:=gC hd
  have hat:=strs_get hc
  have hil:=cA L
  obtain⟨R,hR,hx⟩:=aS hx
  have hlt':=eR hlt
  have hw:=cH (i:=i) (by omega)
  have hcm:=natsBeq_comm c.s v
  cases hb:aB v c.s with
  | true=>
   rw[hb]at hcm
   simp[b40_0,aK,Tryz.f25,loops,EVT,TYC,lp,h0,h1,h5,hlt',hil,hat,hcm]at hx
   exact⟨_,by rw[←hx];simp[dA,hb];rfl,by simp[T.aA]⟩
  | false=>
   rw[hb]at hcm
   simp[b40_0,aK,Tryz.f25,loops,EVT,TYC,lp,h0,h1,h5,hlt',hil,hat,hcm,hw]at hx
   rw[hR]at hx
   have e:dA (c::l) v=dA l v:=by simp[dA,hb]
   rw[e]
   exact loop40 (o:=o) (v:=v) hl l (i+1) hx hd' hlt (by simp[T.aA,h0]) (by simp[T.aA,h1]) (by simp[T.aA])
theorem p40_ok:cJ Tryz.prog 25 pHasS:=prim2_ok env_ok (fn:=Tryz.f25) (by kernel_rfl) body40 (by kernel_rfl) fun L v hl=>by
 rw[strs_enc,show(Enc.enc v:AV) = .str v.s from rfl,show(Enc.enc (dA L v.s):AV) = .bool (dA L v.s) from rfl]
 unfold bodyL
 simp only[aC,sub,Tryz.f25]
 simp[EVT,aT]
 generalize hx:cdL env 25 18 (.loop b40_0) _ _=x
 obtain⟨tm',rfl,g⟩:=loop40 (o := .no) (v:=v.s) hl L 0 hx rfl (Nat.zero_le _) (by simp[T.aA]) (by simp[T.aA]) (by simp[T.aA])
 cases hb:dA L v.s with
 | true=>simp[g hb,AV.wk]
 | false=>simp[EVT,AV.wk]
def funS:List Nat:=[102,117,110]
def letS:List Nat:=[108,101,116]
def tryS:List Nat:=[116,114,121]
def recS:List Nat:=[114,101,99]
def dY:List Nat:=[109,97,116,99,104]
def varS:List Nat:=[118,97,114]
def bindT (o p q:List Nat) (i:Int):List Str:=
 bif aB o funS||((aB o letS||aB o tryS)&&aE i 1)then [⟨p⟩]else
 bif (aB o recS&&aE i 0)||(aB o dY&&aE i 2)then [⟨p⟩,⟨q⟩]else bif aB o recS then [⟨p⟩]else []
def bindR (o p q:List Nat) (i:Int):List Str:=
 bif aB o funS||((aB o letS&&aE i 1)||((aB o tryS&&aE i 1)||(aB o recS&&aE i 1)))then [⟨p⟩]else
 bif (aB o recS&&aE i 0)||(aB o dY&&aE i 2)then [⟨p⟩,⟨q⟩]else []
def bindTN (t:Nd) (i:Int):List Str:=bindT t.op t.name t.arg i
def bindRN (t:Nd) (i:Int):List Str:=bindR t.op t.name t.arg i
noncomputable abbrev pBindT:=cF (eA (Rel2 (fun (_:Nd) (_:Int)=>True) bindTN))
noncomputable abbrev pBindR:=cF (eA (Rel2 (fun (_:Nd) (_:Int)=>True) bindRN))
theorem p26_ok:cJ Tryz.prog 39 pBindT:=prim2_ok env_ok (fn:=Tryz.f39) (by kernel_rfl) (c:=aC Tryz.f39 []) rfl (by kernel_rfl) fun t i _=>by
 obtain⟨o,p,q,n,a,ks⟩:=t
 rw[show(Enc.enc (Nd.mk o p q n a ks):AV)=(Nd.mk o p q n a ks).av from rfl,show(Enc.enc i:AV) = .int .i64 i from rfl,strs_enc]
 unfold bodyL bindTN bindT
 simp only[aC,sub,Tryz.f39,Nd.op,Nd.name,Nd.arg,Nd.av]
 by_cases e1:o=funS
 ·subst e1;simp[EVT,aT,TYC,aB,bytesOf,funS,letS,tryS,recS,dY,strs,wk_sl,cK,wks_nil,wk_str,own_no]
 by_cases e2:o=letS
 ·subst e2;cases h1:aE i 1<;>simp[EVT,aT,TYC,aB,bytesOf,funS,letS,tryS,recS,dY,h1,strs,wk_sl,cK,wks_nil,wk_str,own_no]
 by_cases e3:o=tryS
 ·subst e3;cases h1:aE i 1<;>simp[EVT,aT,TYC,aB,bytesOf,funS,letS,tryS,recS,dY,h1,strs,wk_sl,cK,wks_nil,wk_str,own_no]
 by_cases e4:o=recS
 ·subst e4;cases h1:aE i 0<;>simp[EVT,aT,TYC,aB,bytesOf,funS,letS,tryS,recS,dY,h1,strs,wk_sl,cK,wks_nil,wk_str,own_no]
 by_cases e5:o=dY
 ·subst e5;cases h1:aE i 2<;>simp[EVT,aT,TYC,aB,bytesOf,funS,letS,tryS,recS,dY,h1,strs,wk_sl,cK,wks_nil,wk_str,own_no]
 have n1:aB o [102,117,110]=false:=by cases hb:aB o [102,117,110]with|false=>rfl|true=>exact absurd (cU.1 hb) e1
 have n2:aB o [108,101,116]=false:=by cases hb:aB o [108,101,116]with|false=>rfl|true=>exact absurd (cU.1 hb) e2
 have n3:aB o [116,114,121]=false:=by cases hb:aB o [116,114,121]with|false=>rfl|true=>exact absurd (cU.1 hb) e3
 have n4:aB o [114,101,99]=false:=by cases hb:aB o [114,101,99]with|false=>rfl|true=>exact absurd (cU.1 hb) e4
 have n5:aB o [109,97,116,99,104]=false:=by cases hb:aB o [109,97,116,99,104]with|false=>rfl|true=>exact absurd (cU.1 hb) e5
 simp[EVT,aT,TYC,bytesOf,funS,letS,tryS,recS,dY,n1,n2,n3,n4,n5,strs,wk_sl,wks_nil,own_no]
theorem p41_ok:cJ Tryz.prog 62 pBindR:=prim2_ok env_ok (fn:=Tryz.f62) (by kernel_rfl) (c:=aC Tryz.f62 []) rfl (by kernel_rfl) fun t i _=>by
 obtain⟨o,p,q,n,a,ks⟩:=t
 rw[show(Enc.enc (Nd.mk o p q n a ks):AV)=(Nd.mk o p q n a ks).av from rfl,show(Enc.enc i:AV) = .int .i64 i from rfl,strs_enc]
 unfold bodyL bindRN bindR
 simp only[aC,sub,Tryz.f62,Nd.op,Nd.name,Nd.arg,Nd.av]
 by_cases e1:o=funS
 ·subst e1;simp[EVT,aT,TYC,aB,bytesOf,funS,letS,tryS,recS,dY,strs,wk_sl,cK,wks_nil,wk_str,own_no]
 by_cases e2:o=letS
 ·subst e2;cases h1:aE i 1<;>simp[EVT,aT,TYC,aB,bytesOf,funS,letS,tryS,recS,dY,h1,strs,wk_sl,cK,wks_nil,wk_str,own_no]
 by_cases e3:o=tryS
 ·subst e3;cases h1:aE i 1<;>simp[EVT,aT,TYC,aB,bytesOf,funS,letS,tryS,recS,dY,h1,strs,wk_sl,cK,wks_nil,wk_str,own_no]
 by_cases e4:o=recS
 ·subst e4;cases h1:aE i 1<;>cases h2:aE i 0<;>simp[EVT,aT,TYC,aB,bytesOf,funS,letS,tryS,recS,dY,h1,h2,strs,wk_sl,cK,wks_nil,wk_str,own_no]
 by_cases e5:o=dY
 ·subst e5;cases h1:aE i 2<;>simp[EVT,aT,TYC,aB,bytesOf,funS,letS,tryS,recS,dY,h1,strs,wk_sl,cK,wks_nil,wk_str,own_no]
 have n1:aB o [102,117,110]=false:=by cases hb:aB o [102,117,110]with|false=>rfl|true=>exact absurd (cU.1 hb) e1
 have n2:aB o [108,101,116]=false:=by cases hb:aB o [108,101,116]with|false=>rfl|true=>exact absurd (cU.1 hb) e2
 have n3:aB o [116,114,121]=false:=by cases hb:aB o [116,114,121]with|false=>rfl|true=>exact absurd (cU.1 hb) e3
 have n4:aB o [114,101,99]=false:=by cases hb:aB o [114,101,99]with|false=>rfl|true=>exact absurd (cU.1 hb) e4
 have n5:aB o [109,97,116,99,104]=false:=by cases hb:aB o [109,97,116,99,104]with|false=>rfl|true=>exact absurd (cU.1 hb) e5
 simp[EVT,aT,TYC,bytesOf,funS,letS,tryS,recS,dY,n1,n2,n3,n4,n5,strs,wk_sl,wks_nil,own_no]
theorem cBindT {E:Env} (hp:E.prim 39=some pBindT) (t:Nd) (i:Int) (h:H):evL E 39 [t.av,.int .i64 i] h=some (.sl .no (strs (bindTN t i)),h):=
 prim2_call (a:=t) (b:=i) (F:=bindTN) (q:=fun _ _=>True) hp (Enc.bare 0 t) (Enc.bare 0 i) trivial h
theorem cBindR {E:Env} (hp:E.prim 62=some pBindR) (t:Nd) (i:Int) (h:H):evL E 62 [t.av,.int .i64 i] h=some (.sl .no (strs (bindRN t i)),h):=
 prim2_call (a:=t) (b:=i) (F:=bindRN) (q:=fun _ _=>True) hp (Enc.bare 0 t) (Enc.bare 0 i) trivial h
theorem bindT_len (o p q:List Nat) (i:Int):(bindT o p q i).length≤2:=by
 unfold bindT
 cases (aB o funS||((aB o letS||aB o tryS)&&aE i 1))<;>cases ((aB o recS&&aE i 0)||(aB o dY&&aE i 2))<;>cases aB o recS<;>simp
theorem bindR_len (o p q:List Nat) (i:Int):(bindR o p q i).length≤2:=by
 unfold bindR
 cases (aB o funS||((aB o letS&&aE i 1)||((aB o tryS&&aE i 1)||(aB o recS&&aE i 1))))<;>cases ((aB o recS&&aE i 0)||(aB o dY&&aE i 2))<;>simp
end Go.Proofs.YtogjplcnmibnlaaGreatDoor.Tr
namespace Go.Proofs.YtogjplcnmibnlaaGreatDoor.Tr
open Go.Proofs.YtogjplcnmibnlaaGreatDoor.Env Go.Ev Go.Ev.Nd
def toB (s:List Nat):List UInt8:=s.map UInt8.ofNat
def ofB (b:List UInt8):List Nat:=b.map (·.toNat)
abbrev sortB (l:List (List UInt8)):List (List UInt8):=l.mergeSort fun x y=>decide (x≤y)
def sortS (L:List Str):List Str:=(Lib.compact (sortB (L.map fun t=>toB t.s))).map fun b=>⟨ofB b⟩
def notB (B F:List Str):List Str:=F.filter fun x => !dA B x.s
mutual
def dM:Nd→List Str
 | .mk o p q n a ks=>bif aB o varS then [⟨p⟩]else sortS (eM o p q 0 ks)
def eM (o p q:List Nat) (i:Nat):List Nd→List Str
 | []=>[]
 | t::l=>notB (bindT o p q ↑i) (dM t)++eM o p q (i+1) l
end
theorem notB_len (B F:List Str):(notB B F).length≤F.length:=List.length_filter_le ..
theorem sortS_len (L:List Str):(sortS L).length≤L.length:=by
 have h1:=Lib.compact_length_le (sortB (L.map fun t=>toB t.s))
 have h2:(sortB (L.map fun t=>toB t.s)).length=(L.map fun t=>toB t.s).length:=List.length_mergeSort _
 simp only[List.length_map]at h2
 simp only[sortS,List.length_map]
 omega
mutual
theorem freeT_len:∀ t:Nd,(dM t).length≤t.size
 | .mk o p q n a ks=>by
  simp only[dM,Nd.size]
  cases aB o varS with
  | true=>simp
  | false=>
   simp only[cond_false]
   have h1:=sortS_len (eM o p q 0 ks)
   have h2:=freeTL_len o p q 0 ks
   omega
theorem freeTL_len (o p q:List Nat) (i:Nat):∀ l:List Nd,(eM o p q i l).length≤dU l
 | []=>Nat.le_refl _
 | t::l=>by
  simp only[eM,dU,List.length_append]
  have h1:=notB_len (bindT o p q ↑i) (dM t)
  have h2:=freeT_len t
  have h3:=freeTL_len o p q (i+1) l
  omega
end
noncomputable def b15_0:Code:=aK Tryz.f21 0
noncomputable def b15_1:Code:=aK Tryz.f21 1
theorem lb15_0:b15_0=(.seq (aC Tryz.f21 [1,1,1,0,1,0,0,0]) (.seq (aC Tryz.f21 [1,1,1,0,1,0,0,1,0]) (.seq (.block 1 (.seq (aC Tryz.f21 [1,1,1,0,1,0,0,1,1,0,0,0]) (.seq (aC Tryz.f21 [1,1,1,0,1,0,0,1,1,0,0,1,0]) (.seq (aC Tryz.f21 [1,1,1,0,1,0,0,1,1,0,0,1,1,0]) (.block 2 (.loop b15_1)))))) (aC Tryz.f21 [1,1,1,0,1,0,0,1,1,1])))):=rfl
theorem loop15_1 {E:Env} (hty:E.ty=env.ty) (hpl:E.plan=env.plan) (h27:E.prim 18=some pHasS) {B F:List Str} (hF:F.length≤1000000) (hB:B.length≤9223372036854775807) :
  ∀ (l:List Str) (j:Nat) (w:Own) (out:List Str) {tm:Tm} {h:H} {x:Option (Ex × Tm × H)},cdL E 21 47 (.loop b15_1) tm h=x→l=F.drop j→j≤F.length→out.length+l.length≤1000000→RowE 9 1 h w (strs out) →
  tm.get 3=some (.sl w (strs out))→tm.get 6=some (.sl .no (strs B))→tm.get 27=some (.sl .no (strs F))→tm.get 28=some (.int .i64 ↑F.length)→tm.get 29=some (.int .i64 ↑j) →
  ∃ tm' h' w',x=some (.exit 2,tm',h')∧tm'.get 3=some (.sl w' (strs (out++notB B l)))∧RowE 9 1 h' w' (strs (out++notB B l))∧(∀ k,k<27→k≠3→k≠8→tm'.get k=tm.get k)∧h.nx≤h'.nx∧(∀ j,j<h.nx→w ≠ .ch j→h'.t.get j=h.t.get j)∧(∀ j,w' = .ch j→w = .ch j∨h.nx≤j)
 | [],j,w,out,tm,h,x,hx,hd,hj,hlen,hr,g3,g6,g27,g28,g29=>by
  have hl:=dnil hd hj
  obtain⟨R,hR,hx⟩:=aS hx
  simp[b15_1,aK,Tryz.f21,loops,EVT,bC,aX,bA,bT,aL,aN,aG,aZ,val,bN,bP,aU,aP,bK,lp,hty,g28,g29,hl,dZ]at hx
  exact⟨_,h,w,hx.symm,by simp[T.aA,g3,notB],by simpa[notB]using hr,fun k h1 h2 h3=>by simp only[T.aA];repeat rw[if_neg (by omega)],Nat.le_refl _,fun _ _ _=>rfl,fun j e => .inl e⟩
 | v::l,j,w,out,tm,h,x,hx,hd,hj,hlen,hr,g3,g6,g27,g28,g29=>by
  obtain⟨hlt,hc,hd'⟩:=gC hd
  have hic:=strs_get hc
  have hlt':=eR hlt
  have hw:=cH (i:=j) (by omega)
  simp only[List.length_cons]at hlen
  have k1:=fun h=>cHas (E:=E) h27 .no B v.s hB h
  obtain⟨R,hR,hx⟩:=aS hx
  cases h1:dA B v.s with
  | true=>
   have e:notB B (v::l)=notB B l:=by simp[notB,h1]
   simp[b15_1,aK,Tryz.f21,loops,EVT,bC,aX,bA,bT,aL,aN,aQ,bF,aV,AV.cells,aG,aZ,val,aH,bN,bP,bG,aU,aO,aM,bY,H.new,H.put,bB,AV.one,bJ,aR,aP,bK,TYC,lp,hty,g3,g6,g27,g28,g29,hlt',hic,k1,h1,hw]at hx
   rw[hR]at hx
   rw[e]
   obtain⟨tm',h',w',q1,q2,q3,q4,q5⟩:=loop15_1 hty hpl h27 (B:=B) hF hB l (j+1) w out hx hd' hlt (by omega) hr (by simp[T.aA,g3]) (by simp[T.aA,g6]) (by simp[T.aA,g27]) (by simp[T.aA,g28]) (by simp[T.aA])
   refine⟨tm',h',w',q1,q2,q3,fun k k1 k2 k3 => ?_,q5⟩
   rw[q4 k k1 k2 k3]
   simp only[T.aA]
   repeat rw[if_neg (by omega)]
  | false=>
   have e:notB B (v::l)=v::notB B l:=by simp[notB,h1]
   have so:=cA out
   obtain⟨w2,h2,e2,r2,n2,f2⟩:=app_any (e:=9) (sz:=1) (byt:=16) (xs:=strs out) (ys:=strs [v]) (by omega) (by omega) (fZ out) (fZ [v]) (strs_ones [v]) (by rw[so,cA];simp;omega) hr
   rw[strs_append]at e2 r2
   have zv:strs [v]=[.str v.s]:=rfl
   rw[zv]at e2
   have hw2:∀ j,w2 = .ch j→w = .ch j∨h.nx≤j:=fun j ej=>own_app hr e2 j ej
   simp[b15_1,aK,Tryz.f21,loops,EVT,bC,aX,bA,bT,aL,aN,aQ,bF,aV,AV.cells,aG,aZ,val,aH,bN,bP,aU,aO,aM,bJ,aR,aP,bK,TYC,lp,hty,g3,g6,g27,g28,g29,hlt',hic,k1,h1,hw,e2]at hx
   rw[hR]at hx
   obtain⟨tm',h',w',q1,q2,q3,q4,q5,q6,q7⟩:=loop15_1 hty hpl h27 (B:=B) hF hB l (j+1) w2 (out++[v]) hx hd' hlt (by simp;omega) r2 (by simp[T.aA]) (by simp[T.aA,g6]) (by simp[T.aA,g27]) (by simp[T.aA,g28]) (by simp[T.aA])
   rw[e]
   refine⟨tm',h',w',q1,by simpa using q2,by simpa using q3,fun k k1 k2 k3 => ?_,by omega,fun j hj hne => ?_,fun j ej => ?_⟩
   ·rw[q4 k k1 k2 k3]
    simp only[T.aA]
    repeat rw[if_neg (by omega)]
   ·rw[q6 j (by omega) (fun ew=>by
     rcases hw2 j ew with h1|h1
     ·exact hne h1
     ·omega),f2 j hj hne]
   ·rcases q7 j ej with h1|h1
    ·exact hw2 j h1
    ·exact .inr (by omega)
end Go.Proofs.YtogjplcnmibnlaaGreatDoor.Tr
namespace Go.Proofs.YtogjplcnmibnlaaGreatDoor.Tr
open Go.Proofs.YtogjplcnmibnlaaGreatDoor.Env Go.Ev Go.Ev.Nd
attribute [local simp] bC aX bA bT aL aN aQ bX bF bW dE cD aV AV.cells aG aZ val aH bN bP cP bG eI aU aO aM bY bI recheck H.new H.put cT aY bB AV.one setArgs bQ bS bJ aR aP bK
mutual
def szF:Nd→Int→Int
 | .mk _ _ _ _ _ ks,m=>szL ks m 1
def szL:List Nd→Int→Int→Int
 | [],_,k=>k
 | t::l,m,k=>bif ltI k m then szL l m (k+szF t (m-k))else k
end
mutual
theorem szF_le:∀ (t:Nd) (m:Int),1≤szF t m∧(szF t m≤m∨szF t m=1)
 | .mk _ _ _ _ _ ks,m=>by
  have:=szL_le ks m 1 (Int.le_refl _)
  simp only[szF]
  omega
theorem szL_le:∀ (l:List Nd) (m k:Int),1≤k→k≤szL l m k∧(szL l m k≤m∨szL l m k=k)
 | [],m,k,_=>by simp[szL]
 | t::l,m,k,hk=>by
  simp only[szL]
  cases hb:ltI k m with
  | false=>simp
  | true=>
   have hlt:k<m:=by rw[dI]at hb;simpa using hb
   have h1:=szF_le t (m-k)
   have h2:=szL_le l m (k+szF t (m-k)) (by omega)
   simp only[cond_true]
   omega
end
mutual
theorem szF_size:∀ (t:Nd) (m:Int),szF t m<m→szF t m=↑t.size
 | .mk _ _ _ _ _ ks,m,h=>by
  simp only[szF,Nd.size]at *
  have:=szL_size ks m 1 (Int.le_refl _) h
  rw[this];push_cast;omega
theorem szL_size:∀ (l:List Nd) (m k:Int),1≤k→szL l m k<m→szL l m k=k+↑(dU l)
 | [],m,k,_,_=>by simp[szL,dU]
 | t::l,m,k,hk,h=>by
  simp only[szL,dU]at *
  cases hb:ltI k m with
  | false=>
   rw[hb]at h
   simp only[cond_false]at h
   have:¬ k<m:=by rw[dI]at hb;simpa using hb
   exact absurd h this
  | true=>
   have hlt:k<m:=by rw[dI]at hb;simpa using hb
   rw[hb]at h
   simp only[cond_true]at h ⊢
   have h1:=szF_le t (m-k)
   have h2:=szL_le l m (k+szF t (m-k)) (by omega)
   have h3:=szF_size t (m-k) (by omega)
   rw[szL_size l m _ (by omega) h,h3]
   push_cast;omega
end
theorem nd_cells (t:Nd):∃ a b c d e f,t.av = .agg [.str a,.str b,.str c,.int .i64 d,.int .i64 e,.sl .no f]:=by cases t;exact⟨_,_,_,_,_,_,rfl⟩
noncomputable def b19_0:Code:=aK Tryz.f16 0
theorem body19:Tryz.f16.body=some (.seq (aC Tryz.f16 [0]) (.seq (aC Tryz.f16 [1,0]) (.seq (.seq (aC Tryz.f16 [1,1,0,0]) (.block 0 (.loop b19_0))) (aC Tryz.f16 [1,1,1])))):=rfl
theorem loop19 {E:Env} (hty:E.ty=env.ty) (hpl:E.plan=env.plan) {c0 c1 c2 c3 c4:AV} {ks:List Nd} {m:Int} {d:Nat} (hm:0≤m∧m≤4000) (hl:ks.length≤9223372036854775807) (hf:fits ks) (hd:deps ks≤d)
  (hc:∀ t m h,dep t≤d→fit t→0≤m∧m≤4000→evL E 16 [t.av,.int .i64 m] h=some (.int .i64 (szF t m),h)) :
  ∀ (l:List Nd) (i:Nat) (k:Int) {tm:Tm} {h:H} {x:Option (Ex × Tm × H)},cdL E 16 31 (.loop b19_0) tm h=x→l=ks.drop i→i≤ks.length→1≤k→(k≤m∨k=1) →
  tm.get 1=some (.int .i64 m)→tm.get 2=some (.ptr (some (0,0)))→tm.get 5=some (.int .i64 k)→tm.get 6=some (.int .i64 ↑i)→h.t.get 0=some (.cells [c0,c1,c2,c3,c4,.sl .no (avs ks)]) →
  ∃ tm',x=some (.exit 0,tm',h)∧tm'.get 5=some (.int .i64 (szL l m k))
 | [],i,k,tm,h,x,hx,hd,hi,hk,hk2,h1,h2,h5,h6,hz=>by
  have hlen:=dnil hd hi
  have hl2:=avs_len ks
  rw[hlen]at hl2
  obtain⟨R,hR,hx⟩:=aS hx
  simp[b19_0,aK,Tryz.f16,loops,EVT,TYC,lp,hty,h2,h6,hz,hl2,dZ]at hx
  exact⟨_,by rw[←hx],by simp[T.aA,h5,szL]⟩
 | t::l,i,k,tm,h,x,hx,hdr,hi,hk,hk2,h1,h2,h5,h6,hz=>by
  obtain⟨hlt,hct,hd'⟩:=gC hdr
  have hl2:=avs_len ks
  have hat:=cX hct
  have htm:=List.mem_of_getElem? hct
  obtain⟨R,hR,hx⟩:=aS hx
  have hlt':=eR hlt
  have hw:=cH (i:=i) (by omega)
  cases hb:ltI k m with
  | false=>
   simp[b19_0,aK,Tryz.f16,loops,EVT,TYC,lp,hty,h1,h2,h5,h6,hz,hl2,hlt',hb]at hx
   exact⟨_,by rw[←hx],by simp[T.aA,h5,szL,hb]⟩
  | true=>
   have hkm:k<m:=by rw[dI]at hb;simpa using hb
   have hw1:wr .i64 (Int.sub m k)=m-k:=wrI (by show _≤m-k;omega) (by show m-k<_;omega)
   have hsz:=szF_le t (m-k)
   have hw2:wr .i64 (k+szF t (m-k))=k+szF t (m-k):=wrI (by omega) (by omega)
   have hcall:=fun h=>hc t (m-k) h (Nat.le_trans (dep_mem htm) hd) (fits_mem.1 hf t htm) (by omega)
   obtain⟨a0,a1,a2,a3,a4,a5,ha⟩:=nd_cells t
   rw[ha]at hat hcall
   simp[b19_0,aK,Tryz.f16,loops,EVT,TYC,lp,hty,h1,h2,h5,h6,hz,hl2,hlt',hb,hat,hw1,hcall,hw2,hw]at hx
   rw[hR]at hx
   obtain⟨tm',g0,g1⟩:=loop19 hty hpl hm hl hf hd hc l (i+1) (k+szF t (m-k)) hx hd' hlt (by omega) (by omega) (by simp[T.aA,h1]) (by simp[T.aA,h2]) (by simp[T.aA]) (by simp[T.aA]) hz
   exact⟨tm',g0,by rw[g1,szL,hb];rfl⟩
def qsz (d:Nat) (t:Nd) (m:Int):Prop:=dep t≤d∧fit t∧0≤m∧m≤4000
def qsz' (t:Nd) (m:Int):Prop:=fit t∧0≤m∧m≤4000
noncomputable abbrev pdSz (d:Nat):=cF (eA (Rel2 (qsz d) szF))
noncomputable abbrev pSz:=cF (eA (Rel2 qsz' szF))
theorem pd19_ok:∀ d,cJ Tryz.prog 16 (pdSz d):=prim_rec env_ok (prim_none Tryz.func16 (by kernel_rfl) (by kernel_rfl) (prim_empty fun a b h=>by have:=dep_pos a;have:=h.1;omega)) fun d hE=>by
 refine prim2_ok hE (fn:=Tryz.f16) (by kernel_rfl) body19 (by kernel_rfl) fun t m hq => ?_
 obtain⟨hdp,hf,hm⟩:=hq
 have hcall:∀ t m h,dep t≤d→fit t→0≤m∧m≤4000→evL (bH env 16 (pdSz d)) 16 [t.av,.int .i64 m] h=some (.int .i64 (szF t m),h):=fun t m h h1 h2 h3=>
  prim2_call (a:=t) (b:=m) (F:=szF) (q:=qsz d) (by kernel_rfl) (Enc.bare 0 t) (Enc.bare 0 m) ⟨h1,h2,h3⟩ h
 have hty:(bH env 16 (pdSz d)).ty=env.ty:=rfl
 have hpl:(bH env 16 (pdSz d)).plan=env.plan:=rfl
 generalize bH env 16 (pdSz d)=E at *
 obtain⟨o,p,q,n,a,ks⟩:=t
 simp only[dep]at hdp
 simp only[fit]at hf
 rw[show(Enc.enc (Nd.mk o p q n a ks):AV)=(Nd.mk o p q n a ks).av from rfl,show(Enc.enc m:AV) = .int .i64 m from rfl]
 unfold bodyL
 simp only[aC,sub,Tryz.f16]
 simp[EVT,aT,Nd.av]
 generalize hx:cdL E 16 31 (.loop b19_0) _ _=x
 obtain⟨tm',rfl,g5⟩:=loop19 hty hpl (c0 := .str o) (c1 := .str p) (c2 := .str q) (c3 := .int .i64 n) (c4 := .int .i64 a) (ks:=ks) (d:=d) hm hf.2.2.2.2.2.1 hf.2.2.2.2.2.2 (by omega) hcall ks 0 1 hx rfl (Nat.zero_le _) (by omega) (.inr rfl) (by simp[T.aA]) (by simp[T.aA]) (by simp[T.aA]) (by simp[T.aA]) (by simp[T.aA])
 simp[EVT,g5,szF,AV.wk,Enc.enc]
theorem p19_ok:cJ Tryz.prog 16 pSz:=prim_union pd19_ok (union2 fun a b h=>⟨dep a,Nat.le_refl _,h⟩)
def sizeF (t:Nd):Int:=szF t 2001
noncomputable abbrev pSize:=cF (eA (Rel1 fit sizeF))
noncomputable abbrev e19:Env:=bH env 16 pSz
theorem p7_ok:cJ Tryz.prog 7 pSize:=prim1_ok (bD env_ok p19_ok) (fn:=Tryz.f7) (by kernel_rfl) rfl (by kernel_rfl) fun t hf=>by
 have k19:=fun h=>prim2_call (E:=e19) (f:=16) (a:=t) (b:=(2001:Int)) (F:=szF) (q:=qsz') (by kernel_rfl) (Enc.bare 0 t) (Enc.bare 0 (2001:Int)) ⟨hf,by omega⟩ h
 have hle:=szF_le t 2001
 have hty:e19.ty=env.ty:=rfl
 have hpl:e19.plan=env.plan:=rfl
 obtain⟨a0,a1,a2,a3,a4,a5,ha⟩:=nd_cells t
 rw[show(Enc.enc t:AV)=t.av from rfl,show(Enc.enc (2001:Int):AV) = .int .i64 2001 from rfl,show(Enc.enc (szF t 2001):AV) = .int .i64 (szF t 2001) from rfl]at k19
 rw[show(Enc.enc t:AV)=t.av from rfl,show(Enc.enc (sizeF t):AV) = .int .i64 (szF t 2001) from rfl]
 rw[ha]at k19 ⊢
 generalize szF t 2001=k at *
 unfold bodyL
 simp only[Tryz.f7]
 have hmin:(bif ltI 2001 k then(2001:Int)else k)=k:=by
  cases hb:ltI 2001 k with
  | false=>rfl
  | true=>rw[dI]at hb;simp at hb;omega
 simp[EVT,aT,TYC,hty,k19,hmin,AV.wk]
noncomputable def b25_0:Code:=aK Tryz.f63 0
theorem body25:Tryz.f63.body=some (.seq (aC Tryz.f63 [0]) (.seq (aC Tryz.f63 [1,0]) (.seq (.seq (aC Tryz.f63 [1,1,0,0]) (.block 0 (.loop b25_0))) (aC Tryz.f63 [1,1,1])))):=rfl
theorem loop25 {E:Env} (hty:E.ty=env.ty) (hpl:E.plan=env.plan) {ks:List Nd} {m:Int} {d:Nat} (hm:0≤m∧m≤4000) (hl:ks.length≤9223372036854775807) (hf:fits ks) (hd:deps ks≤d)
  (hc:∀ t m h,dep t≤d→fit t→0≤m∧m≤4000→evL E 63 [t.av,.int .i64 m] h=some (.int .i64 (szF t m),h)) :
  ∀ (l:List Nd) (i:Nat) (k:Int) {tm:Tm} {h:H} {x:Option (Ex × Tm × H)},cdL E 63 27 (.loop b25_0) tm h=x→l=ks.drop i→i≤ks.length→1≤k→(k≤m∨k=1) →
  tm.get 1=some (.int .i64 m)→tm.get 5=some (.int .i64 k)→tm.get 9=some (.sl .no (avs ks))→tm.get 10=some (.int .i64 ↑ks.length)→tm.get 11=some (.int .i64 ↑i) →
  ∃ tm' h',x=some (.exit 0,tm',h')∧tm'.get 5=some (.int .i64 (szL l m k))
 | [],i,k,tm,h,x,hx,hd,hi,hk,hk2,h1,h5,h9,h10,h11=>by
  have hlen:=dnil hd hi
  obtain⟨R,hR,hx⟩:=aS hx
  simp[b25_0,aK,Tryz.f63,loops,EVT,lp,hty,h10,h11,hlen,dZ]at hx
  exact⟨_,_,by rw[←hx],by simp[T.aA,h5,szL]⟩
 | t::l,i,k,tm,h,x,hx,hdr,hi,hk,hk2,h1,h5,h9,h10,h11=>by
  obtain⟨hlt,hct,hd'⟩:=gC hdr
  have hat:=cX hct
  have htm:=List.mem_of_getElem? hct
  obtain⟨R,hR,hx⟩:=aS hx
  have hlt':=eR hlt
  have hw:=cH (i:=i) (by omega)
  have hcall:=fun (hkm:k<m) h=>hc t (m-k) h (Nat.le_trans (dep_mem htm) hd) (fits_mem.1 hf t htm) (by omega)
  obtain⟨a0,a1,a2,a3,a4,a5,ha⟩:=nd_cells t
  rw[ha]at hat hcall
  cases hb:ltI k m with
  | false=>
   simp[b25_0,aK,Tryz.f63,loops,EVT,TYC,lp,hty,h1,h5,h9,h10,h11,hlt',hat,hb]at hx
   exact⟨_,_,by rw[←hx],by simp[T.aA,h5,szL,hb]⟩
  | true=>
   have hkm:k<m:=by rw[dI]at hb;simpa using hb
   have hcall:=hcall hkm
   have hw1:wr .i64 (Int.sub m k)=m-k:=wrI (by show _≤m-k;omega) (by show m-k<_;omega)
   have hsz:=szF_le t (m-k)
   have hw2:wr .i64 (k+szF t (m-k))=k+szF t (m-k):=wrI (by omega) (by omega)
   simp[b25_0,aK,Tryz.f63,loops,EVT,TYC,lp,hty,h1,h5,h9,h10,h11,hlt',hb,hat,hw1,hcall,hw2,hw]at hx
   rw[hR]at hx
   obtain⟨tm',h',g0,g1⟩:=loop25 hty hpl hm hl hf hd hc l (i+1) (k+szF t (m-k)) hx hd' hlt (by omega) (by omega) (by simp[T.aA,h1]) (by simp[T.aA]) (by simp[T.aA,h9]) (by simp[T.aA,h10]) (by simp[T.aA])
   exact⟨tm',h',g0,by rw[g1,szL,hb];rfl⟩
theorem pd25_ok:∀ d,cJ Tryz.prog 63 (pdSz d):=prim_rec env_ok (prim_none Tryz.func63 (by kernel_rfl) (by kernel_rfl) (prim_empty fun a b h=>by have:=dep_pos a;have:=h.1;omega)) fun d hE=>by
 refine prim2_ok hE (fn:=Tryz.f63) (by kernel_rfl) body25 (by kernel_rfl) fun t m hq => ?_
 obtain⟨hdp,hf,hm⟩:=hq
 have hcall:∀ t m h,dep t≤d→fit t→0≤m∧m≤4000→evL (bH env 63 (pdSz d)) 63 [t.av,.int .i64 m] h=some (.int .i64 (szF t m),h):=fun t m h h1 h2 h3=>
  prim2_call (a:=t) (b:=m) (F:=szF) (q:=qsz d) (by kernel_rfl) (Enc.bare 0 t) (Enc.bare 0 m) ⟨h1,h2,h3⟩ h
 have hty:(bH env 63 (pdSz d)).ty=env.ty:=rfl
 have hpl:(bH env 63 (pdSz d)).plan=env.plan:=rfl
 generalize bH env 63 (pdSz d)=E at *
 obtain⟨o,p,q,n,a,ks⟩:=t
 simp only[dep]at hdp
 simp only[fit]at hf
 have hkl:=avs_len ks
 rw[show(Enc.enc (Nd.mk o p q n a ks):AV)=(Nd.mk o p q n a ks).av from rfl,show(Enc.enc m:AV) = .int .i64 m from rfl]
 unfold bodyL
 simp only[aC,sub,Tryz.f63]
 simp[EVT,aT,TYC,hty,Nd.av,hkl]
 generalize hx:cdL E 63 27 (.loop b25_0) _ _=x
 obtain⟨tm',h',rfl,g5⟩:=loop25 hty hpl (ks:=ks) (d:=d) hm hf.2.2.2.2.2.1 hf.2.2.2.2.2.2 (by omega) hcall ks 0 1 hx rfl (Nat.zero_le _) (by omega) (.inr rfl) (by simp[T.aA]) (by simp[T.aA]) (by simp[T.aA]) (by simp[T.aA]) (by simp[T.aA])
 simp[EVT,g5,szF,AV.wk,Enc.enc]
theorem p25_ok:cJ Tryz.prog 63 pSz:=prim_union pd25_ok (union2 fun a b h=>⟨dep a,Nat.le_refl _,h⟩)
noncomputable abbrev e25:Env:=bH env 63 pSz
theorem p12_ok:cJ Tryz.prog 35 pSize:=prim1_ok (bD env_ok p25_ok) (fn:=Tryz.f35) (by kernel_rfl) rfl (by kernel_rfl) fun t hf=>by
 have k25:=fun h=>prim2_call (E:=e25) (f:=63) (a:=t) (b:=(2001:Int)) (F:=szF) (q:=qsz') (by kernel_rfl) (Enc.bare 0 t) (Enc.bare 0 (2001:Int)) ⟨hf,by omega⟩ h
 have hty:e25.ty=env.ty:=rfl
 have hpl:e25.plan=env.plan:=rfl
 obtain⟨a0,a1,a2,a3,a4,a5,ha⟩:=nd_cells t
 rw[show(Enc.enc t:AV)=t.av from rfl,show(Enc.enc (2001:Int):AV) = .int .i64 2001 from rfl,show(Enc.enc (szF t 2001):AV) = .int .i64 (szF t 2001) from rfl]at k25
 rw[show(Enc.enc t:AV)=t.av from rfl,show(Enc.enc (sizeF t):AV) = .int .i64 (szF t 2001) from rfl]
 rw[ha]at k25 ⊢
 generalize szF t 2001=k at *
 unfold bodyL
 simp only[Tryz.f35]
 simp[EVT,aT,TYC,hty,k25,AV.wk]
end Go.Proofs.YtogjplcnmibnlaaGreatDoor.Tr
namespace Go.Proofs.YtogjplcnmibnlaaGreatDoor.Tr
open Go.Proofs.YtogjplcnmibnlaaGreatDoor.Env Go.Ev Go.Ev.Nd
theorem loop15_0 {E:Env} (hty:E.ty=env.ty) (hpl:E.plan=env.plan) (h26:E.prim 39=some pBindT) (h27:E.prim 18=some pHasS) {t:Nd} {d:Nat} (hkl:t.kids.length≤9223372036854775806) (hf:fits t.kids) (hd:deps t.kids≤d) (hsz:dU t.kids≤1000000)
  (hc:∀ t h,dep t≤d→fit t→t.size≤1000000→evL E 21 [t.av] h=some (.sl .no (strs (dM t)),h)) :
  ∀ (l:List Nd) (i:Nat) (w:Own) (out:List Str) {tm:Tm} {h:H} {x:Option (Ex × Tm × H)},cdL E 21 47 (.loop b15_0) tm h=x→l=t.kids.drop i→i≤t.kids.length→out.length+dU l≤1000000→RowE 9 1 h w (strs out)→h.t.get 0=some (.cells t.av.cells)→0<h.nx →
  tm.get 1=some (.ptr (some (0,0)))→tm.get 3=some (.sl w (strs out))→tm.get 16=some (.sl .no (avs t.kids))→tm.get 17=some (.int .i64 ↑t.kids.length)→tm.get 18=some (.int .i64 ↑i) →
  ∃ tm' h' w',x=some (.exit 0,tm',h')∧tm'.get 3=some (.sl w' (strs (out++eM t.op t.name t.arg i l)))∧RowE 9 1 h' w' (strs (out++eM t.op t.name t.arg i l))
 | [],i,w,out,tm,h,x,hx,hdr,hi,hlen,hr,hz,hn0,g1,g3,g16,g17,g18=>by
  have hl:=dnil hdr hi
  obtain⟨R,hR,hx⟩:=aS hx
  rw[lb15_0]at hx
  simp only[aC,sub,Tryz.f21]at hx
  simp[EVT,bC,aX,bA,bT,aL,aN,aG,aZ,val,bN,bP,aU,aP,bK,lp,hty,g17,g18,hl,dZ]at hx
  exact⟨_,h,w,hx.symm,by simp[T.aA,g3,eM],by simpa[eM]using hr⟩
 | k::l,i,w,out,tm,h,x,hx,hdr,hi,hlen,hr,hz,hn0,g1,g3,g16,g17,g18=>by
  obtain⟨hlt,hct,hd'⟩:=gC hdr
  have hat:=cX hct
  have htm:=List.mem_of_getElem? hct
  have hlt':=eR hlt
  have hw:=cH (i:=i) (by omega)
  simp only[dU]at hlen
  have hks:=size_mem htm
  have kF:=fun h=>hc k h (Nat.le_trans (dep_mem htm) hd) (fits_mem.1 hf k htm) (by omega)
  have kB:=fun h=>cBindT (E:=E) h26 t ↑i h
  have hFl:=freeT_len k
  have hBl:=bindT_len t.op t.name t.arg ↑i
  have hfl:=cA (dM k)
  obtain⟨a0,a1,a2,a3,a4,a5,ha⟩:=nd_cells k
  have hta:=t.bZ
  rw[ha]at hat kF
  have hz':=hz
  rw[hta]at hz kB
  simp only[AV.cells]at hz
  rw[show bindTN t ↑i=bindT t.op t.name t.arg ↑i from rfl]at kB
  obtain⟨R,hR,hx⟩:=aS hx
  rw[lb15_0]at hx
  simp only[aC,sub,Tryz.f21]at hx
  have hn1:¬ (0=h.nx):=by omega
  have hn2:¬ (h.nx=0):=by omega
  simp[EVT,bC,aX,bA,bT,aL,aN,aQ,bX,bF,aV,AV.cells,aG,aZ,val,aH,bN,bP,cP,aU,H.new,H.put,aY,bB,AV.one,bJ,aR,aP,bK,TYC,lp,hty,g1,g16,g17,g18,hlt',hat,hz,hn1,kF,kB,hfl]at hx
  generalize hy:cdL E 21 47 (.loop b15_1) _ _=y at hx
  have hrN:∀ (h2:H),h2.nx=h.nx+1→(∀ j,j<h.nx→h2.t.get j=h.t.get j)→RowE 9 1 h2 w (strs out):=fun h2 q1 q2=>hr.mono (by omega) q2
  have hw0:w ≠ .ch 0:=hr.ne hz'
  obtain⟨tm2,h2,w2,rfl,q3,q4,q5,q6,q7,q8⟩:=loop15_1 hty hpl h27 (B:=bindT t.op t.name t.arg ↑i) (F:=dM k) (by omega) (by omega) (dM k) 0 w out hy rfl (Nat.zero_le _) (by omega) (hrN _ (by simp) fun j hj=>by simp only[T.aA];repeat rw[if_neg (by omega)]) (by simp[T.aA,g3]) (by simp[T.aA]) (by simp[T.aA]) (by simp[T.aA]) (by simp[T.aA])
  have p1:=q5 1 (by omega) (by omega) (by omega)
  have p16:=q5 16 (by omega) (by omega) (by omega)
  have p17:=q5 17 (by omega) (by omega) (by omega)
  have p18:=q5 18 (by omega) (by omega) (by omega)
  simp[T.aA,g1,g16,g17,g18]at p1 p16 p17 p18
  simp only at q6 q7
  have hz2:h2.t.get 0=some (.cells t.av.cells):=by
   rw[q7 0 (by omega) hw0,←hz']
   simp only[T.aA]
   repeat rw[if_neg (by omega)]
  simp[EVT,p18,hw]at hx
  rw[hR]at hx
  have hol:=notB_len (bindT t.op t.name t.arg ↑i) (dM k)
  obtain⟨tm',h',w',e1,e2,e3⟩:=loop15_0 hty hpl h26 h27 hkl hf hd hsz hc l (i+1) w2 (out++notB (bindT t.op t.name t.arg ↑i) (dM k)) hx hd' hlt (by simp;omega) q4 hz2 (by omega) (by simp[T.aA,p1]) (by simp[T.aA,q3]) (by simp[T.aA,p16]) (by simp[T.aA,p17]) (by simp[T.aA])
  exact⟨tm',h',w',e1,by simpa[eM]using e2,by simpa[eM]using e3⟩
theorem bodyT15:Tryz.f21.body=some (.seq (aC Tryz.f21 [0]) (.seq (aC Tryz.f21 [1,0]) (.seq (aC Tryz.f21 [1,1,0]) (.seq (.seq (aC Tryz.f21 [1,1,1,0,0]) (.block 0 (.loop b15_0))) (aC Tryz.f21 [1,1,1,1]))))):=rfl
noncomputable def pre15:Code := .seq (aC Tryz.f21 [0]) (.seq (aC Tryz.f21 [1,0]) (.seq (aC Tryz.f21 [1,1,0]) (.seq (aC Tryz.f21 [1,1,1,0,0]) (.block 0 (.loop b15_0)))))
theorem pre15_run {E:Env} (hty:E.ty=env.ty) (hpl:E.plan=env.plan) (h26:E.prim 39=some pBindT) (h27:E.prim 18=some pHasS) {t:Nd} {d:Nat} (hv:aB t.op varS=false) (hf:fit t) (hd:deps t.kids≤d) (hsz:t.size≤1000000) (hkl:t.kids.length≤9223372036854775806)
  (hc:∀ t h,dep t≤d→fit t→t.size≤1000000→evL E 21 [t.av] h=some (.sl .no (strs (dM t)),h)) :
  ∃ tm h' w',cdL E 21 47 pre15 (setArgs 0 [t.av] .e) ⟨.e,0⟩=some (.normal,tm,h')∧tm.get 3=some (.sl w' (strs (eM t.op t.name t.arg 0 t.kids)))∧RowE 9 1 h' w' (strs (eM t.op t.name t.arg 0 t.kids)):=by
 have hta:=t.bZ
 have hkn:=avs_len t.kids
 have hv':aB t.op [118,97,114]=false:=hv
 rw[size_eq]at hsz
 have hfit:=(fit_iff t).1 hf
 have hL:=fun (x:Option (Ex × Tm × H)) tm h=>loop15_0 hty hpl h26 h27 (t:=t) (d:=d) hkl hfit.2.2.2.2.2.2 hd (by omega) hc t.kids 0 .full [] (x:=x) (tm:=tm) (h:=h)
 rw[hta]at hL ⊢
 simp only[AV.cells]at hL
 unfold pre15
 simp only[aC,sub,Tryz.f21]
 simp[EVT,bC,aX,bA,bT,aL,aN,aQ,bX,aV,AV.cells,aG,aZ,val,aH,bN,cP,aU,aO,aM,H.new,setArgs,bJ,aR,TYC,hty,hkn,bytesOf,hv']
 generalize hx:cdL E 21 47 (.loop b15_0) _ _=x
 obtain⟨tm',h',w',rfl,q3,q4⟩:=hL x _ _ hx rfl (Nat.zero_le _) (by simp;omega) (.inl ⟨rfl,rfl⟩) (by simp[T.aA]) (by simp) (by simp[T.aA]) (by simp[T.aA,strs]) (by simp[T.aA]) (by simp[T.aA]) (by simp[T.aA])
 exact⟨tm',h',rfl,w',by simpa using q3,by simpa using q4⟩
theorem var15_run {E:Env} (hty:E.ty=env.ty) (hpl:E.plan=env.plan) {t:Nd} (hv:aB t.op varS=true):∃ h1,bodyL E 21 Tryz.f21 (.seq (aC Tryz.f21 [0]) (.seq (aC Tryz.f21 [1,0]) (.seq (aC Tryz.f21 [1,1,0]) (.seq (.seq (aC Tryz.f21 [1,1,1,0,0]) (.block 0 (.loop b15_0))) (aC Tryz.f21 [1,1,1,1]))))) [t.av] ⟨.e,0⟩=some (.sl .full (strs [⟨t.name⟩]),h1):=by
 have hta:=t.bZ
 have hv':aB t.op [118,97,114]=true:=hv
 rw[hta]
 unfold bodyL
 simp only[aC,sub,Tryz.f21]
 simp[EVT,aT,bC,aX,bA,bT,aL,aN,aQ,bX,aV,AV.cells,aG,aZ,val,aH,bN,cP,aU,aO,aM,H.new,setArgs,bQ,bS,bJ,aR,TYC,hty,bytesOf,hv',strs]
end Go.Proofs.YtogjplcnmibnlaaGreatDoor.Tr
