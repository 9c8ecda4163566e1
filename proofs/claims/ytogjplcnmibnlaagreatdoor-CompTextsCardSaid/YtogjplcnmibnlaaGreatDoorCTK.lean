/- The program's Free as a primitive. -/
import Derived.Test.YtogjplcnmibnlaaGreatDoorCTH
set_option autoImplicit false
set_option maxRecDepth 100000
set_option linter.unusedSimpArgs false
set_option linter.unusedVariables false
set_option linter.unusedSectionVars false
set_option maxHeartbeats 1000000
namespace Go.Proofs.YtogjplcnmibnlaaGreatDoor.Tr
open Go.Proofs.YtogjplcnmibnlaaGreatDoor.Env Go.Ev Go.Ev.Nd
theorem sortC28:SortC Tryz.prog Go.Proofs.encStr sortB 40 where
 fn:=⟨_,Tryz.func40,by kernel_rfl,by kernel_rfl⟩
 len:=fun zs=>List.length_mergeSort zs
 nil:=by simp[sortB]
 row:=fun g cap zs w hH hg hl=>calls_of_every_depth fun D=>AnyS.slices_Sort_string_alone Tryz.lays190 D g 0 cap zs w hH hg hl
 none:=fun p cap w=>calls_of_every_depth fun D=>AnyS.slices_Sort_string_none_alone Tryz.lays190 D p cap w
theorem compC29:CompC Tryz.prog Go.Proofs.encStr ([]:List UInt8) 41 where
 fn:=⟨_,Tryz.func41,by kernel_rfl,by kernel_rfl⟩
 row:=fun g cap zs w hH hl hc=>calls_of_every_depth fun D=>AnyS.slices_Compact_string_in Tryz.lays194 D g 0 cap zs w hH hl hc
 none:=fun p cap w=>calls_of_every_depth fun D=>AnyS.slices_Compact_string_empty_in Tryz.lays194 D p cap w
theorem ofB_toB {s:List Nat} (h:∀ x∈s,x<256):ofB (toB s)=s:=by
 unfold ofB toB
 rw[List.map_map]
 conv=>rhs;rw[←List.map_id s]
 refine List.map_congr_left fun x hx => ?_
 have:=h x hx
 simp[Function.comp,UInt8.toNat_ofNat',Nat.mod_eq_of_lt this]
theorem toB_ofB (b:List UInt8):toB (ofB b)=b:=by
 unfold ofB toB
 rw[List.map_map]
 conv=>rhs;rw[←List.map_id b]
 exact List.map_congr_left fun x _=>by simp
theorem ofB_lt (b:List UInt8):∀ x∈ofB b,x<256:=by
 intro x hx
 obtain⟨y,_,rfl⟩:=List.mem_map.1 hx
 exact y.toNat_lt
def okB (L:List Str):Prop:=∀ t∈L,∀ x∈t.s,x<256
theorem sortS_bytes (L:List Str):okB (sortS L):=by
 intro t ht
 obtain⟨b,_,rfl⟩:=List.mem_map.1 ht
 exact ofB_lt b
theorem notB_bytes {B F:List Str} (h:okB F):okB (notB B F):=fun t ht=>h t (List.mem_filter.1 ht).1
mutual
theorem freeT_bytes:∀ t:Nd,fit t→okB (dM t)
 | .mk o p q n a ks,h=>by
  simp only[dM]
  cases aB o varS with
  | true=>
   simp only[cond_true]
   intro t ht
   rw[List.mem_singleton.1 ht]
   simp only[fit]at h
   exact h.2.1.2
  | false=>exact sortS_bytes _
theorem freeTL_bytes (o p q:List Nat) (i:Nat):∀ l:List Nd,fits l→okB (eM o p q i l)
 | [],_=>fun t ht=>by simp[eM]at ht
 | t::l,h=>by
  simp only[fits]at h
  simp only[eM]
  intro u hu
  rcases List.mem_append.1 hu with hu|hu
  ·exact notB_bytes (freeT_bytes t h.1) u hu
  ·exact freeTL_bytes o p q (i+1) l h.2 u hu
end
theorem strs_toB {L:List Str} (h:okB L):strs L=(L.map fun t=>toB t.s).map fun z=>AV.str (ofB z):=by
 unfold strs
 rw[List.map_map]
 exact List.map_congr_left fun t ht=>by simp only[Function.comp,ofB_toB (h t ht)]
theorem bytes_of (z:List UInt8):bytesOf ⟨z.toArray⟩=ofB z:=by simp[bytesOf,ofB]
theorem enc_VR (G:Gh) (w:World) (z:List UInt8):VR G w (Go.Proofs.encStr z) (.str (ofB z)):=by
 rw[←bytes_of]
 exact .str ⟨z.toArray⟩
theorem enc_inv (G:Gh) (w:World) (V:Value) (z:List UInt8) (r:VR G w V (.str (ofB z))):V=Go.Proofs.encStr z:=by
 generalize he:ofB z=l at r
 cases r with
 | str s=>
  have:s.data.toList=z:=by
   have e:toB (bytesOf s)=toB (ofB z):=by rw[he]
   rw[toB_ofB]at e
   rw[←e]
   exact(toB_ofB s.data.toList).symm
  show Value.string s = .string ⟨z.toArray⟩
  rw[←this]
theorem kids_len:∀ l:List Nd,l.length≤dU l
 | []=>Nat.le_refl _
 | t::l=>by
  have:=kids_len l
  have h2:1≤t.size:=by rw[size_eq];omega
  simp only[List.length_cons,dU]
  omega
def qFr (d:Nat) (t:Nd):Prop:=dep t≤d∧fit t∧t.size≤1000000
def qFr' (t:Nd):Prop:=fit t∧t.size≤1000000
noncomputable abbrev pdFr (d:Nat):=cF (eA (Rel1 (qFr d) dM))
noncomputable abbrev pTFree:=cF (eA (Rel1 qFr' dM))
noncomputable abbrev e2627:Env:=bH (bH env 39 pBindT) 18 pHasS
theorem e2627_ok:dW Tryz.prog e2627:=bD (bD env_ok p26_ok) p27_ok
theorem pd15_ok:∀ d,cJ Tryz.prog 21 (pdFr d):=prim_rec e2627_ok (prim_none Tryz.func21 (by kernel_rfl) (by kernel_rfl) (prim_empty1 fun a h=>by have:=dep_pos a;have:=h.1;omega)) fun d hE=>by
 refine primVal_direct' (fn:=Tryz.f21) Tryz.func21 (by kernel_rfl) (by kernel_rfl) fun args v hv => ?_
 obtain⟨t,h1,⟨hdp,hf,hs⟩,rfl⟩:=fY hv
 refine⟨_,h1,fun G w A I hA => ?_⟩
 have hty:(bH e2627 21 (pdFr d)).ty=env.ty:=rfl
 have hpl:(bH e2627 21 (pdFr d)).plan=env.plan:=rfl
 have hfn15:(bH e2627 21 (pdFr d)).fns 21=some Tryz.f21:=by kernel_rfl
 have h26:(bH e2627 21 (pdFr d)).prim 39=some pBindT:=by kernel_rfl
 have h27:(bH e2627 21 (pdFr d)).prim 18=some pHasS:=by kernel_rfl
 have hcall:∀ t h,dep t≤d→fit t→t.size≤1000000→evL (bH e2627 21 (pdFr d)) 21 [t.av] h=some (.sl .no (strs (dM t)),h):=fun t h h1 h2 h3=>
  fG (a:=t) (F:=dM) (q:=qFr d) (by kernel_rfl) (Enc.bare 0 t) ⟨h1,h2,h3⟩ h
 generalize bH e2627 21 (pdFr d)=E at *
 rw[show(Enc.enc t:AV)=t.av from rfl]at hA
 rw[dep_eq]at hdp
 have hkl:=kids_len t.kids
 have hse:=size_eq t
 have hfit:=(fit_iff t).1 hf
 cases hb:aB t.op varS with
 | true=>
  obtain⟨h1,he⟩:=var15_run (E:=E) hty hpl hb
  have eF:dM t=[⟨t.name⟩]:=by
   obtain⟨o,p,q,n,a,ks⟩:=t
   simp only[dM,Nd.op]at hb ⊢
   rw[hb];rfl
  rw[eF]
  exact body_direct hE hfn15 bodyT15 (by kernel_rfl) he (by rw[strs_enc];exact strs_bare 0 .full _) G w A I hA
 | false=>
  have eF:dM t=sortS (eM t.op t.name t.arg 0 t.kids):=by
   obtain⟨o,p,q,n,a,ks⟩:=t
   simp only[dM,Nd.op,Nd.name,Nd.arg,Nd.kids]at hb ⊢
   rw[hb];rfl
  have T0:TmR (Gp G) w 47 (setArgs 0 [t.av] .e) { tmps:=A++Array.replicate (47-A.size) undef,defers:=[] }:=tmr_start (by simp) hA
  have hco:=hE.plans 21 Tryz.f21 _ hfn15 bodyT15
  obtain⟨tm,h',w',hx,g3,hr⟩:=pre15_run (E:=E) hty hpl h26 h27 hb hf (d:=d) (by omega) hs (by omega) hcall
  have hrl:=freeTL_len t.op t.name t.arg 0 t.kids
  have hby:=freeTL_bytes t.op t.name t.arg 0 t.kids hfit.2.2.2.2.2.2
  rw[eF,strs_enc]
  have eS:strs (sortS (eM t.op t.name t.arg 0 t.kids))=(Lib.compact (sortB ((eM t.op t.name t.arg 0 t.kids).map fun t=>toB t.s))).map fun z=>AV.str (ofB z):=by
   simp only[strs,sortS,List.map_map,Function.comp_def]
  rw[eS]
  refine(calls_of_wp (R:=fun e w3=>∃ V',e = .returned V'∧Old w w3∧∀ G':Gh,(∀ b,w.heap.size≤b→G'.fr b=none)→VR G' w3 V' (.sl .no ((Lib.compact (sortB ((eM t.op t.name t.arg 0 t.kids).map fun t=>toB t.s))).map fun z=>AV.str (ofB z)))) Tryz.func21 bodyT15 ?_).mono (by rintro e w' ⟨V,h1,h2,h3⟩;exact⟨V,h1,h2,fun hG=>h3 G hG⟩)
  refine seq4_sim hE (by simp only[codeOk,Bool.and_eq_true]at hco ⊢;exact⟨hco.1,hco.2.1,hco.2.2.1,hco.2.2.2.1⟩) I T0 hx fun G1 w1 a1 I1 X1 T1 d1 => ?_
  have r:=T1.val 3 _ g3
  have hsz:=T1.size
  rw[strs_toB hby]at r
  have hzl:((eM t.op t.name t.arg 0 t.kids).map fun t=>toB t.s).length=(eM t.op t.name t.arg 0 t.kids).length:=List.length_map ..
  have hfr:(w' = .full∧((eM t.op t.name t.arg 0 t.kids).map fun t=>toB t.s)=[])∨∃ id,w' = .ch id∧h'.t.get id=some (.chain ((eM t.op t.name t.arg 0 t.kids).map fun t=>toB t.s).length 9 1):=by
   rcases hr with ⟨e,e0⟩|⟨id,e,hg,_⟩
   ·refine .inl ⟨e,?_⟩
    have:eM t.op t.name t.arg 0 t.kids=[]:=by simpa[strs]using e0
    rw[this];rfl
   ·exact .inr ⟨id,e,by rw[hzl,←cA];exact hg⟩
  have ho:=row_owned (enc:=Go.Proofs.encStr) I1 X1 (av:=fun z=>AV.str (ofB z)) enc_inv (fun _=>rfl) hfr r
  obtain⟨o0,o1,o2,o3,o4,hT,q0,q1,q2,q3,q4⟩:∃ o0 o1 o2 o3 o4,aC Tryz.f21 [1,1,1,1] = .seq (.region 15 #[o0,o1] false) (.seq (.region 16 #[o2,o3,o4] false) .ret)∧(o0.op = .move (.tmp 3)∧o0.dst=some 43∧o0.guard=none) ∧
    (o1.op = .call { callee := .value (.func 40),args := #[.tmp 43],argTypes := #[25] }∧o1.dst=some 44∧o1.guard=none)∧(o2.op = .move (.tmp 3)∧o2.dst=some 45∧o2.guard=none) ∧
    (o3.op = .call { callee := .value (.func 41),args := #[.tmp 45],argTypes := #[25] }∧o3.dst=some 46∧o3.guard=none)∧(o4.op = .assign (.tmp 46)∧o4.dst=some 2∧o4.guard=none):=
   ⟨_,_,_,_,_,rfl,⟨rfl,rfl,rfl⟩,⟨rfl,rfl,rfl⟩,⟨rfl,rfl,rfl⟩,⟨rfl,rfl,rfl⟩,⟨rfl,rfl,rfl⟩⟩
  rw[hT]
  exact tail_sc (e:=9) sortC28 compC29 (av:=fun z=>AV.str (ofB z)) enc_VR (fun _=>rfl) rfl (below_of_ext X1) (by omega) ho q0 q1 q2 q3 q4 rfl d1 rfl (by rw[hsz];omega) (by omega)
theorem p15_ok:cJ Tryz.prog 21 pTFree:=prim_union pd15_ok (union1 fun a h=>⟨dep a,Nat.le_refl _,h⟩)
end Go.Proofs.YtogjplcnmibnlaaGreatDoor.Tr
namespace Go.Proofs.YtogjplcnmibnlaaGreatDoor.Tr
open Go.Proofs.YtogjplcnmibnlaaGreatDoor.Env Go.Ev Go.Ev.Nd
attribute [local simp] bC aX bA bT aL aN aQ bX bF bW dE cD aV AV.cells aG aZ val aH bN bP cP bG eI aU aO aM bY bI recheck H.new H.put cT aY bB AV.one setArgs bQ bS bJ aR aP bK
def insS (out:List Str) (p:List Nat):List Str:=out.takeWhile (fun y=>cO y.s p)++⟨p⟩::out.dropWhile (fun y=>cO y.s p)
theorem insS_len (out:List Str) (p:List Nat):(insS out p).length=out.length+1:=by
 have:=congrArg List.length (List.takeWhile_append_dropWhile (p:=fun y:Str=>cO y.s p) (l:=out))
 simp only[List.length_append]at this
 simp only[insS,List.length_append,List.length_cons]
 omega
mutual
def freeR:Nd→List Str→List Str→List Str
 | .mk o p q n a ks,bound,out=>freeRL o p q 0 ks bound (bif aB o varS&&(!dA bound p && !dA out p)then insS out p else out)
def freeRL (o p q:List Nat) (i:Nat):List Nd→List Str→List Str→List Str
 | [],_,out=>out
 | t::l,bound,out=>freeRL o p q (i+1) l bound (freeR t (bound++bindR o p q ↑i) out)
end
mutual
theorem freeR_len:∀ (t:Nd) (bound out:List Str),(freeR t bound out).length≤out.length+t.size
 | .mk o p q n a ks,bound,out=>by
  simp only[freeR,Nd.size]
  have:=freeRL_len o p q 0 ks bound (bif aB o varS&&(!dA bound p && !dA out p)then insS out p else out)
  cases hb:(aB o varS&&(!dA bound p && !dA out p))with
  | true=>rw[hb]at this;simp only[cond_true,insS_len]at this ⊢;omega
  | false=>rw[hb]at this;simp only[cond_false]at this ⊢;omega
theorem freeRL_len (o p q:List Nat) (i:Nat):∀ (l:List Nd) (bound out:List Str),(freeRL o p q i l bound out).length≤out.length+dU l
 | [],bound,out=>by simp[freeRL,dU]
 | t::l,bound,out=>by
  simp only[freeRL,dU]
  have h1:=freeR_len t (bound++bindR o p q ↑i) out
  have h2:=freeRL_len o p q (i+1) l bound (freeR t (bound++bindR o p q ↑i) out)
  omega
end
noncomputable def b30_0:Code:=aK Tryz.f33 0
noncomputable def b30_1:Code:=aK Tryz.f33 1
theorem body30:Tryz.f33.body=some (.seq (aC Tryz.f33 [0]) (.seq (.seq (aC Tryz.f33 [1,0,0]) (.cond (condAt Tryz.f33 [1,0,1]) (.seq (aC Tryz.f33 [1,0,1,0,0]) (.seq (.block 0 (.loop b30_0)) (aC Tryz.f33 [1,0,1,0,1,1]))) (aC Tryz.f33 [1,0,1,1]))) (.seq (.seq (aC Tryz.f33 [1,1,0,0]) (.block 2 (.loop b30_1))) (aC Tryz.f33 [1,1,1])))):=rfl
theorem loop30_0 {E:Env} (hty:E.ty=env.ty) (hpl:E.plan=env.plan) {c0 c2 c3 c4 c5:AV} {p:List Nat} {out:List Str} {o:Own} (hl:out.length≤1000000) :
  ∀ (l:List Str) (i:Nat) {tm:Tm} {h:H} {x:Option (Ex × Tm × H)},cdL E 33 76 (.loop b30_0) tm h=x→l=out.drop i→i≤out.length→h.t.get 0=some (.cells [c0,.str p,c2,c3,c4,c5]) →
  tm.get 2=some (.sl o (strs out))→tm.get 3=some (.ptr (some (0,0)))→tm.get 7=some (.int .i64 ↑i) →
  ∃ tm',x=some (.exit 0,tm',h)∧tm'.get 7=some (.int .i64 ↑(i+(l.takeWhile (fun y=>cO y.s p)).length))∧∀ k,k<7→tm'.get k=tm.get k
 | [],i,tm,h,x,hx,hd,hi,hz,g2,g3,g7=>by
  have hlen:=dnil hd hi
  have hil:=cA out
  rw[hlen]at hil
  obtain⟨R,hR,hx⟩:=aS hx
  simp[b30_0,aK,Tryz.f33,loops,EVT,TYC,lp,hty,hpl,g2,g7,hil,dZ]at hx
  exact⟨_,hx.symm,by simp[T.aA,g7],fun k hk=>by simp only[T.aA];repeat rw[if_neg (by omega)]⟩
 | c::l,i,tm,h,x,hx,hd,hi,hz,g2,g3,g7=>by
  obtain⟨hlt,hc,hd'⟩:=gC hd
  have hil:=cA out
  have hic:=strs_get hc
  have hlt':=eR hlt
  have hw:=cH (i:=i) (by omega)
  obtain⟨R,hR,hx⟩:=aS hx
  cases hb:cO c.s p with
  | false=>
   simp[b30_0,aK,Tryz.f33,loops,EVT,TYC,lp,hty,hpl,g2,g3,g7,hz,hil,hlt',hic,hb]at hx
   exact⟨_,hx.symm,by simp[T.aA,g7,List.takeWhile,hb],fun k hk=>by simp only[T.aA];repeat rw[if_neg (by omega)]⟩
  | true=>
   simp[b30_0,aK,Tryz.f33,loops,EVT,TYC,lp,hty,hpl,g2,g3,g7,hz,hil,hlt',hic,hb,hw]at hx
   rw[hR]at hx
   obtain⟨tm',q1,q2,q3⟩:=loop30_0 hty hpl (o:=o) (out:=out) hl l (i+1) hx hd' hlt hz (by simp[T.aA,g2]) (by simp[T.aA,g3]) (by simp[T.aA])
   refine⟨tm',q1,?_,fun k hk => ?_⟩
   ·rw[q2];simp[List.takeWhile,hb];omega
   ·rw[q3 k hk]
    simp only[T.aA]
    repeat rw[if_neg (by omega)]
def q30 (d:Nat) (t:Nd) (bound out:List Str):Prop:=dep t≤d∧fit t∧bound.length+2*t.size≤1000000∧out.length+t.size≤1000000
theorem loop30_1 {E:Env} (hty:E.ty=env.ty) (hpl:E.plan=env.plan) (h41:E.prim 62=some pBindR) {t:Nd} {bound:List Str} {d:Nat} (hkl:t.kids.length≤9223372036854775806) (hf:fits t.kids) (hd:deps t.kids≤d) (hsz:bound.length+2+2*dU t.kids≤1000000)
  (hc:∀ t b o h,q30 d t b o→∀ {x y:AV},x.wk 0 (.sl .no (strs b))→y.wk 0 (.sl .no (strs o))→evL E 33 [t.av,x,y] h=some (.sl .no (strs (freeR t b o)),h)) :
  ∀ (l:List Nd) (i:Nat) (w:Own) (out:List Str) {tm:Tm} {h:H} {x:Option (Ex × Tm × H)},cdL E 33 76 (.loop b30_1) tm h=x→l=t.kids.drop i→i≤t.kids.length→out.length+dU l≤1000000→h.t.get 0=some (.cells t.av.cells)→0<h.nx →
  tm.get 1=some (.sl .no (strs bound))→tm.get 2=some (.sl w (strs out))→tm.get 3=some (.ptr (some (0,0)))→tm.get 8=some (.int .i64 ↑i) →
  ∃ tm' h' w',x=some (.exit 2,tm',h')∧tm'.get 2=some (.sl w' (strs (freeRL t.op t.name t.arg i l bound out)))
 | [],i,w,out,tm,h,x,hx,hdr,hi,hlen,hz,hn0,g1,g2,g3,g8=>by
  have hl:=dnil hdr hi
  have hkn:=avs_len t.kids
  rw[hl]at hkn
  have hta:=t.bZ
  rw[hta]at hz
  simp only[AV.cells]at hz
  obtain⟨R,hR,hx⟩:=aS hx
  simp[b30_1,aK,Tryz.f33,loops,EVT,TYC,lp,hty,g3,g8,hz,hkn,dZ]at hx
  exact⟨_,h,w,hx.symm,by simp[T.aA,g2,freeRL]⟩
 | k::l,i,w,out,tm,h,x,hx,hdr,hi,hlen,hz,hn0,g1,g2,g3,g8=>by
  obtain⟨hlt,hct,hd'⟩:=gC hdr
  have hat:=cX hct
  have hkn:=avs_len t.kids
  have htm:=List.mem_of_getElem? hct
  have hlt':=eR hlt
  have hw:=cH (i:=i) (by omega)
  simp only[dU]at hlen
  have hks:=size_mem htm
  have hBl:=bindR_len t.op t.name t.arg ↑i
  have kB:=fun h=>cBindR (E:=E) h41 t ↑i h
  rw[show bindRN t ↑i=bindR t.op t.name t.arg ↑i from rfl]at kB
  have hrl:=freeR_len k (bound++bindR t.op t.name t.arg ↑i) out
  have hbl:=cA bound
  have hbb:=cA (bindR t.op t.name t.arg ↑i)
  obtain⟨w1,ha1,e1,r1,n1,f1⟩:=app_any (e:=9) (sz:=1) (byt:=16) (h:=h) (w := .full) (xs:=[]) (ys:=strs bound) (by omega) (by omega) rfl (fZ _) (strs_ones _) (by rw[hbl];simp;omega) (.inl ⟨rfl,rfl⟩)
  rw[List.nil_append]at e1 r1
  obtain⟨w2,ha2,e2,r2,n2,f2⟩:=app_any (e:=9) (sz:=1) (byt:=16) (xs:=strs bound) (ys:=strs (bindR t.op t.name t.arg ↑i)) (by omega) (by omega) (fZ _) (fZ _) (strs_ones _) (by rw[hbl,hbb];omega) r1
  rw[strs_append]at e2 r2
  have z1:ha1.t.get 0=some (.cells t.av.cells):=by rw[f1 0 hn0 (by simp)];exact hz
  have z2:ha2.t.get 0=some (.cells t.av.cells):=by rw[f2 0 (by omega) (r1.ne z1)];exact z1
  have kF:=fun h=>hc k (bound++bindR t.op t.name t.arg ↑i) out h ⟨Nat.le_trans (dep_mem htm) hd,fits_mem.1 hf k htm,by simp;omega,by omega⟩ (strs_bare 0 w2 _) (strs_bare 0 w out)
  obtain⟨a0,a1,a2,a3,a4,a5,ha⟩:=nd_cells k
  have hta:=t.bZ
  rw[ha]at hat kF
  have hz':=hz
  have z2':=z2
  rw[hta]at hz kB z1 z2
  simp only[AV.cells]at hz z1 z2
  obtain⟨R,hR,hx⟩:=aS hx
  simp[b30_1,aK,Tryz.f33,loops,EVT,TYC,lp,hty,hpl,g1,g2,g3,g8,hz,z1,z2,hkn,hlt',hat,e1,e2,kB,kF,hw,-bG]at hx
  rw[hR]at hx
  obtain⟨tm',h',w',q1,q2⟩:=loop30_1 hty hpl h41 hkl hf hd hsz hc l (i+1) .no (freeR k (bound++bindR t.op t.name t.arg ↑i) out) hx hd' hlt (by omega) z2' (by omega) (by simp[T.aA,g1]) (by simp[T.aA]) (by simp[T.aA,g3]) (by simp[T.aA])
  exact⟨tm',h',w',q1,by simpa[freeRL]using q2⟩
theorem take_while_len (out:List Str) (p:List Nat):out.take (out.takeWhile (fun y=>cO y.s p)).length=out.takeWhile (fun y=>cO y.s p)∧out.drop (out.takeWhile (fun y=>cO y.s p)).length=out.dropWhile (fun y=>cO y.s p):=by
 induction out with
 | nil=>exact⟨rfl,rfl⟩
 | cons c l ih=>
  cases h:cO c.s p with
  | true=>simp[List.takeWhile,List.dropWhile,h,ih.1,ih.2]
  | false=>simp[List.takeWhile,List.dropWhile,h]
noncomputable abbrev pd30 (d:Nat):=cF (eA (Rel3 (q30 d) freeR))
def q30' (t:Nd) (bound out:List Str):Prop:=fit t∧bound.length+2*t.size≤1000000∧out.length+t.size≤1000000
noncomputable abbrev p30:=cF (eA (Rel3 q30' freeR))
noncomputable abbrev e4041:Env:=bH (bH env 25 pHasS) 62 pBindR
theorem e4041_ok:dW Tryz.prog e4041:=bD (bD env_ok p40_ok) p41_ok
theorem pd30_ok:∀ d,cJ Tryz.prog 33 (pd30 d):=prim_rec e4041_ok (prim_none Tryz.func33 (by kernel_rfl) (by kernel_rfl) (prim_empty3 fun a b c h=>by have:=dep_pos a;have:=h.1;omega)) fun d hE=>by
 refine prim3_ok hE (fn:=Tryz.f33) (by kernel_rfl) body30 (by kernel_rfl) fun t bound out hq => ?_
 obtain⟨hdp,hf,hs1,hs2⟩:=hq
 have hcall:∀ t b o h,q30 d t b o→∀ {x y:AV},x.wk 0 (.sl .no (strs b))→y.wk 0 (.sl .no (strs o))→evL (bH e4041 33 (pd30 d)) 33 [t.av,x,y] h=some (.sl .no (strs (freeR t b o)),h):=fun t b o h hq x y hx hy=>
  prim3_call (a:=t) (b:=b) (c:=o) (F:=freeR) (q:=q30 d) (by kernel_rfl) (Enc.bare 0 t) hx hy hq h
 have hty:(bH e4041 33 (pd30 d)).ty=env.ty:=rfl
 have hpl:(bH e4041 33 (pd30 d)).plan=env.plan:=rfl
 have h40:(bH e4041 33 (pd30 d)).prim 25=some pHasS:=by kernel_rfl
 have h41:(bH e4041 33 (pd30 d)).prim 62=some pBindR:=by kernel_rfl
 generalize bH e4041 33 (pd30 d)=E at *
 rw[dep_eq]at hdp
 have hse:=size_eq t
 have hkl:=kids_len t.kids
 have hfit:=(fit_iff t).1 hf
 have kb:=fun h=>cHas (E:=E) h40 .no bound t.name (by omega) h
 have ko:=fun h=>cHas (E:=E) h40 .no out t.name (by omega) h
 have hL:=fun (out2:List Str) (w:Own) (x:Option (Ex × Tm × H)) tm h=>loop30_1 (E:=E) hty hpl h41 (t:=t) (bound:=bound) (d:=d) (by omega) hfit.2.2.2.2.2.2 (by omega) (by omega) hcall t.kids 0 w out2 (x:=x) (tm:=tm) (h:=h)
 have hL0:=fun (x:Option (Ex × Tm × H)) tm h=>loop30_0 (E:=E) hty hpl (c0 := .str t.op) (p:=t.name) (c2 := .str t.arg) (c3 := .int .i64 t.n) (c4 := .int .i64 t.at_) (c5 := .sl .no (avs t.kids)) (out:=out) (o := .no) (by omega) out 0 (x:=x) (tm:=tm) (h:=h)
 have hta:=t.bZ
 have eF:freeR t bound out=freeRL t.op t.name t.arg 0 t.kids bound (bif aB t.op varS&&(!dA bound t.name && !dA out t.name)then insS out t.name else out):=by cases t;rfl
 rw[show(Enc.enc t:AV)=t.av from rfl,strs_enc,strs_enc,strs_enc,eF]
 have hol:=cA out
 rw[hta]at hL ⊢
 simp only[AV.cells]at hL
 unfold bodyL
 simp only[aC,condAt,sub,Tryz.f33]
 have hcond:aB t.op [118,97,114]=aB t.op varS:=rfl
 have noins:(aB t.op varS&&(!dA bound t.name && !dA out t.name))=false→∃ v' h1,aT E.ty Tryz.f33.results.toList (cdL E 33 76 (.seq (aC Tryz.f33 [0]) (.seq (.seq (aC Tryz.f33 [1,0,0]) (.cond (condAt Tryz.f33 [1,0,1]) (.seq (aC Tryz.f33 [1,0,1,0,0]) (.seq (.block 0 (.loop b30_0)) (aC Tryz.f33 [1,0,1,0,1,1]))) (aC Tryz.f33 [1,0,1,1]))) (.seq (.seq (aC Tryz.f33 [1,1,0,0]) (.block 2 (.loop b30_1))) (aC Tryz.f33 [1,1,1])))) (setArgs 0 [.agg [.str t.op,.str t.name,.str t.arg,.int .i64 t.n,.int .i64 t.at_,.sl .no (avs t.kids)],.sl .no (strs bound),.sl .no (strs out)] .e) ⟨.e,0⟩)=some (v',h1)∧v'.wk 0 (.sl .no (strs (freeRL t.op t.name t.arg 0 t.kids bound out))):=by
  intro hc
  simp only[aC,condAt,sub,Tryz.f33]
  cases h1:aB t.op varS with
  | false=>
   simp[EVT,aT,TYC,hty,hpl,bytesOf,hcond,h1]
   generalize hx:cdL E 33 76 (.loop b30_1) _ _=x
   obtain⟨tm',h',w',rfl,q2⟩:=hL out .no x _ _ hx rfl (Nat.zero_le _) (by omega) (by simp[T.aA]) (by simp) (by simp[T.aA]) (by simp[T.aA]) (by simp[T.aA]) (by simp[T.aA])
   simp[EVT,q2]
   exact strs_bare 0 w' _
  | true=>
   cases h2:dA bound t.name with
   | true=>
    simp[EVT,aT,TYC,hty,hpl,bytesOf,hcond,h1,h2,kb]
    generalize hx:cdL E 33 76 (.loop b30_1) _ _=x
    obtain⟨tm',h',w',rfl,q2⟩:=hL out .no x _ _ hx rfl (Nat.zero_le _) (by omega) (by simp[T.aA]) (by simp) (by simp[T.aA]) (by simp[T.aA]) (by simp[T.aA]) (by simp[T.aA])
    simp[EVT,q2]
    exact strs_bare 0 w' _
   | false=>
    have h3:dA out t.name=true:=by rw[h1,h2]at hc;simpa using hc
    simp[EVT,aT,TYC,hty,hpl,bytesOf,hcond,h1,h2,h3,kb,ko]
    generalize hx:cdL E 33 76 (.loop b30_1) _ _=x
    obtain⟨tm',h',w',rfl,q2⟩:=hL out .no x _ _ hx rfl (Nat.zero_le _) (by omega) (by simp[T.aA]) (by simp) (by simp[T.aA]) (by simp[T.aA]) (by simp[T.aA]) (by simp[T.aA])
    simp[EVT,q2]
    exact strs_bare 0 w' _
 cases hc:(aB t.op varS&&(!dA bound t.name && !dA out t.name))with
 | false=>simp only[cond_false];have:=noins hc;simp only[aC,condAt,sub,Tryz.f33]at this;exact this
 | true=>
  simp only[cond_true]
  simp only[Bool.and_eq_true,Bool.not_eq_true']at hc
  obtain⟨h1,h2,h3⟩:=hc
  simp[EVT,aT,TYC,hty,hpl,bytesOf,hcond,h1,h2,h3,kb,ko,-bG]
  generalize hy:cdL E 33 76 (.loop b30_0) _ _=y
  obtain⟨tm2,rfl,q7,qk⟩:=hL0 y _ _ hy rfl (Nat.zero_le _) (by simp[T.aA]) (by simp[T.aA]) (by simp[T.aA]) (by simp[T.aA])
  have tw:=take_while_len out t.name
  obtain⟨K,hK⟩:∃ K,K=(out.takeWhile (fun y=>cO y.s t.name)).length:=⟨_,rfl⟩
  have hKl:K≤out.length:=by have:=insS_len out t.name;simp only[insS,List.length_append,List.length_cons]at this;omega
  rw[←hK]at tw
  rw[←hK,Nat.zero_add]at q7
  have p0:=qk 0 (by omega)
  have p1:=qk 1 (by omega)
  have p2:=qk 2 (by omega)
  have p3:=qk 3 (by omega)
  have p6:=qk 6 (by omega)
  simp[T.aA]at p0 p1 p2 p3 p6
  have l1:(strs (out.take K)).length=K:=by rw[cA,List.length_take];omega
  have l2:(strs (out.drop K)).length=out.length-K:=by rw[cA,List.length_drop]
  obtain⟨w1,ha1,e1,r1,n1,f1⟩:=app_any (e:=9) (sz:=1) (byt:=16) (h:=⟨T.e.set 0 (Ev.Obj.cells [.str t.op,.str t.name,.str t.arg,.int .i64 t.n,.int .i64 t.at_,.sl .no (avs t.kids)]),1⟩) (w := .full) (xs:=[]) (ys:=strs (out.take K)) (by omega) (by omega) rfl (fZ _) (strs_ones _) (by rw[l1];simp;omega) (.inl ⟨rfl,rfl⟩)
  rw[List.nil_append]at e1 r1
  have z1:ha1.t.get 0=some (.cells [.str t.op,.str t.name,.str t.arg,.int .i64 t.n,.int .i64 t.at_,.sl .no (avs t.kids)]):=by rw[f1 0 (by simp) (by simp)];simp[T.aA]
  simp only at n1
  obtain⟨w2,ha2,e2,r2,n2,f2⟩:=app_any (e:=9) (sz:=1) (byt:=16) (xs:=strs (out.take K)) (ys:=strs [⟨t.name⟩]) (by omega) (by omega) (fZ _) (fZ _) (strs_ones _) (by rw[l1,cA];simp;omega) r1
  have z2:ha2.t.get 0=_:=(f2 0 (by omega) (r1.ne z1)).trans z1
  rw[strs_append]at e2 r2
  have l3:(strs (out.take K++[⟨t.name⟩])).length=K+1:=by rw[cA,List.length_append,List.length_take];simp;omega
  obtain⟨w3,ha3,e3,r3,n3,f3⟩:=app_any (e:=9) (sz:=1) (byt:=16) (xs:=strs (out.take K++[⟨t.name⟩])) (ys:=strs (out.drop K)) (by omega) (by omega) (fZ _) (fZ _) (strs_ones _) (by rw[l3,l2];omega) r2
  have z3:ha3.t.get 0=_:=(f3 0 (by omega) (r2.ne z2)).trans z2
  rw[strs_append]at e3 r3
  have hins:out.take K++[⟨t.name⟩]++out.drop K=insS out t.name:=by rw[tw.1,tw.2];simp[insS]
  rw[hins]at e3 r3
  have y1:(strs out).take K=strs (out.take K):=by simp[strs,List.map_take]
  have y2:(strs out).drop K=strs (out.drop K):=by simp[strs,List.map_drop]
  have y3:(strs (out.drop K)).take (out.length-K)=strs (out.drop K):=List.take_of_length_le (by rw[l2];exact Nat.le_refl _)
  have zv:strs [⟨t.name⟩]=[.str t.name]:=rfl
  have b1:Nat.ble K out.length=true:=by rw[Nat.ble_eq];exact hKl
  have b2:Nat.ble K K=true:=by rw[Nat.ble_eq];exact Nat.le_refl K
  have so:=fZ out
  rw[zv]at e2
  simp[EVT,TYC,p2,p3,q7,hol,so,hKl,y1,y2,y3,z1,e1,e2,e3,-bG]
  generalize hx:cdL E 33 76 (.loop b30_1) _ _=x
  have hil:=insS_len out t.name
  obtain⟨tm',h',w',rfl,q2⟩:=hL (insS out t.name) w3 x _ _ hx rfl (Nat.zero_le _) (by omega) z3 (by omega) (by simp[T.aA,p1]) (by simp[T.aA]) (by simp[T.aA,p3]) (by simp[T.aA])
  simp[EVT,q2]
  exact strs_bare 0 w' _
theorem p30_ok:cJ Tryz.prog 33 p30:=prim_union pd30_ok (union3 fun a b c h=>⟨dep a,Nat.le_refl _,h⟩)
def freeRF (t:Nd):List Str:=freeR t [] []
def qRF (t:Nd):Prop:=fit t∧t.size≤400000
noncomputable abbrev pRFree:=cF (eA (Rel1 qRF freeRF))
noncomputable abbrev e30:Env:=bH env 33 p30
theorem p16_ok:cJ Tryz.prog 15 pRFree:=prim1_ok (bD env_ok p30_ok) (fn:=Tryz.f15) (by kernel_rfl) (c:=aC Tryz.f15 []) rfl (by kernel_rfl) fun t hq=>by
 have k30:=fun h=>prim3_call (E:=e30) (f:=33) (a:=t) (b:=([]:List Str)) (c:=([]:List Str)) (F:=freeR) (q:=q30') (by kernel_rfl) (x:=t.av) (y := .sl .full []) (z := .sl .full []) (Enc.bare 0 t) (strs_bare 0 .full []) (strs_bare 0 .full []) ⟨hq.1,by have:=hq.2;simp;omega,by have:=hq.2;simp;omega⟩ h
 have hty:e30.ty=env.ty:=rfl
 have hpl:e30.plan=env.plan:=rfl
 have hta:=t.bZ
 rw[strs_enc]at k30
 rw[show(Enc.enc t:AV)=t.av from rfl,strs_enc]
 rw[hta]at k30 ⊢
 have hb:=strs_bare 0 .no (freeRF t)
 unfold bodyL
 simp only[aC,sub,Tryz.f15]
 simp[EVT,aT,TYC,hty,k30]
 exact hb
end Go.Proofs.YtogjplcnmibnlaaGreatDoor.Tr
