/- Parse, and the verifier's Is, as primitives. -/
import Derived.Test.YtogjplcnmibnlaaGreatDoorKP
import Derived.Test.YtogjplcnmibnlaaGreatDoorKL
import Derived.Test.YtogjplcnmibnlaaGreatDoorQL
set_option autoImplicit false
set_option maxRecDepth 100000
set_option maxHeartbeats 8000000
set_option linter.unusedSimpArgs false
set_option linter.unusedVariables false
namespace Go.Proofs.YtogjplcnmibnlaaGreatDoor.Ck
open Go.Ev Go.Ev.Nd Go.Proofs.YtogjplcnmibnlaaGreatDoor.Env
theorem wt_of {t:Nd} {en:List Str} (his:Tr.isR t=true) (hv:Vd t.dep t en) (hen:en.length≤4) (hC:(cZ (gen t.dep) t en [] 0).2.length≤200) (hl:∀ c∈(cZ (gen t.dep) t en [] 0).2,c.length≤4000) :
  ∃ K:Pg,K.C=(cZ (gen t.dep) t en [] 0).2∧K.S=(cZ (gen t.dep) t en [] 0).1∧K.dep=en.length∧WT K∧Is13 K:=by
 obtain⟨hsz,he⟩:=is_size his
 have g:=gen_ok t.dep t en [] 1 0 (Nat.le_refl _) he hv (by omega)
 have gf:=GR.fn (dd:=en.length) (op:=4) g (insOk1 (by simp[dO]) (.inr rfl)) fun X q=>by
  obtain⟨ts,s⟩:=q 0 [] en.length (by simp[cM]) (Nat.le_refl _) (by omega) (by omega) (by simp;omega)
  exact fun_ok s (by omega)
 have hlen:=cW t.dep t en [] 1 0 (each_ar t he)
 obtain⟨DL,d1,d2⟩:=gf.ty
 have eC:(cZ (gen t.dep) t en [] 0).2=((gen t.dep t en [] (0+1) 0).2.2++[⟨10,0⟩])::(gen t.dep t en [] (0+1) 0).2.1:=rfl
 have eS:(cZ (gen t.dep) t en [] 0).1=(gen t.dep t en [] (0+1) 0).1:=rfl
 rw[←eC]at d1 d2
 generalize hCC:(cZ (gen t.dep) t en [] 0).2=C at *
 generalize hSS:(cZ (gen t.dep) t en [] 0).1=S at *
 rw[←eS]at d2
 obtain⟨p1,p2,p3⟩:=d2 ⟨fun k=>DL.getD k 0,S.length,C.length⟩ ⟨Nat.le_refl _,by simp,fun k v hk=>by simp[List.getD_eq_getElem?_getD,hk]⟩
 simp only at p2 p3
 have ex:∀ k,k<C.length→∃ τ:List Sx,∃ co,C[k]?=some co∧τ.length=co.length∧τ[0]?=some ⟨0,DL.getD k 0,[]⟩∧(∀ i ins z,co[i]?=some ins→τ[i]?=some z→IOk' ⟨fun k=>DL.getD k 0,S.length,C.length⟩ (DL.getD k 0) (fun j=>τ[j]?) i z ins)∧∀ z∈τ,Bd z:=by
  intro k hk
  obtain⟨co,hco⟩:∃ co,C[k]?=some co:=⟨_,List.getElem?_eq_getElem hk⟩
  obtain⟨v,hv⟩:∃ v,DL[k]?=some v:=⟨_,List.getElem?_eq_getElem (by rw[d1];exact hk)⟩
  have e1:DL.getD k 0=v:=by simp[List.getD_eq_getElem?_getD,hv]
  obtain⟨τ,t1,t2,t3,t4⟩:=p1 k co v hco hv
  exact⟨τ,co,hco,t1,by rw[e1];exact t2,by rw[e1];exact t3,t4⟩
 classical
 obtain⟨τ,hτ⟩:∃ τ:Nat→List Sx,∀ k,k<C.length→∃ co,C[k]?=some co∧(τ k).length=co.length∧(τ k)[0]?=some ⟨0,DL.getD k 0,[]⟩∧(∀ i ins z,co[i]?=some ins→(τ k)[i]?=some z→IOk' ⟨fun k=>DL.getD k 0,S.length,C.length⟩ (DL.getD k 0) (fun j=>(τ k)[j]?) i z ins)∧∀ z∈τ k,Bd z:=by
  refine⟨fun k=>if h:k<C.length then(ex k h).choose else [],fun k hk => ?_⟩
  simp only[dif_pos hk]
  exact(ex k hk).choose_spec
 refine⟨⟨C,S,en.length,τ,fun k=>DL.getD k 0⟩,rfl,rfl,rfl,?_,?_⟩
 ·exact {
   ne:=by simp only[eC];simp
   len:=by simp only;omega
   tl:=fun f co hco=>by
    simp only at hco
    obtain⟨co',q1,q2,q3,_⟩:=hτ f (aI hco)
    rw[hco]at q1
    simp only[Option.some.injEq]at q1
    subst q1
    have:=hl co (List.mem_of_getElem? hco)
    have:=aI q3
    exact⟨q2.symm,by omega,by omega⟩
   ok:=fun f i co ins hco hin=>by
    simp only at hco
    obtain⟨co',q1,q2,q3,q4,_⟩:=hτ f (aI hco)
    rw[hco]at q1
    simp only[Option.some.injEq]at q1
    subst q1
    obtain⟨x,hx⟩:∃ x,(τ f)[i]?=some x:=⟨_,List.getElem?_eq_getElem (by rw[q2];exact aI hin)⟩
    exact⟨x,hx,(q4 i ins x hin hx).to⟩
   b:=fun f i x hf hx=>by
    obtain⟨co',q1,q2,q3,q4,q5⟩:=hτ f hf
    exact q5 x (List.mem_of_getElem? hx)
   s0:=fun f hf=>by
    obtain⟨co',q1,q2,q3,_⟩:=hτ f hf
    exact q3
   d0:=p2 }
 ·have hS:S.length≤2000:=by
   have:=hlen.1
   rw[eS]
   simp at this ⊢
   omega
  exact {
   dep:=hen
   s:=hS
   sl:=fun s hs=>by
    rcases gf.ss s (by rw[←eS];exact hs)with h|h
    ·simp at h
    ·exact h
   c:=hC
   cl:=hl
   ins:=fun c hc i hi=>gf.iN c (by rw[←eC];exact hc) i hi }
theorem chunks1:∀ l:List AV,chunks 1 l.length l=l.map fun x => .agg [x]
 | []=>rfl
 | a::l=>by
  simp only[List.length_cons,chunks,List.map_cons,List.drop_succ_cons,List.drop_zero,List.take_succ_cons,List.take_zero]
  rw[chunks1 l]
theorem chunks2:∀ c:List Ins,chunks 2 c.length (insC c)=c.map fR
 | []=>rfl
 | i::c=>by
  simp only[List.length_cons,chunks,insC,List.map_cons,fR]
  rw[←chunks2 c]
  rfl
theorem all0_map {α β:Type} {f:α→Option β} {g:α→β}:∀ {l:List α},(∀ x∈l,f x=some (g x))→all0 f l=some (l.map g)
 | [],_=>rfl
 | a::l,h=>by
  simp only[all0,h a (List.mem_cons_self ..),all0_map fun x hx=>h x (List.mem_cons_of_mem _ hx),List.map_cons]
theorem all0_ins {f:AV→Option AV} (hf:∀ n,f (.int .i64 n)=some (.int .i64 n)):∀ c:List Ins,all0 f (insC c)=some (insC c)
 | []=>rfl
 | i::c=>by simp only[insC,all0,hf,all0_ins hf c]
theorem snap_ins {k:Nat} {h:H} (c:List Ins):all0 (cL (k+1) h) (insC c)=some (insC c):=all0_ins (f:=cL (k+1) h) (fun n=>rfl) c
theorem snap_code {h:H} {v:AV} {c:List Ins} (hc:fI h v c) (k:Nat):cL (k+2) h v=some (.sl .no (c.map fR)):=by
 rcases hc with ⟨rfl,rfl⟩|⟨id,rfl,hg,_⟩
 ·rfl
 ·have hlen:=insC_len c
  have:=snap_ins (k:=k) (h:=h) c
  show cE (cL (k+1) h) h (.rs id c.length true)=_
  simp only[cE,hg,hlen,bV.2 rfl,Bool.and_self,cond_true,this,chunks2]
theorem snap_strs {k:Nat} {h:H} (S:List Str):all0 (cL (k+1) h) (strs S)=some (strs S):=by
 have:all0 (cL (k+1) h) (strs S)=some ((strs S).map id):=all0_map fun x hx=>by
  simp only[strs,List.mem_map]at hx
  obtain⟨s,_,rfl⟩:=hx
  rfl
 rwa [List.map_id]at this
theorem all0_funs {f:AV→Option AV}:∀ {F:List AV} {C:List (List Ins)},F.length=C.length→(∀ (i:Nat) x c,F[i]?=some x→C[i]?=some c→f x=some (.sl .no (c.map fR)))→all0 f F=some (C.map fun c => .sl .no (c.map fR))
 | [],[],_,_=>rfl
 | x::F,c::C,hl,h=>by
  simp only[all0,h 0 x c rfl rfl,all0_funs (by simpa using hl) fun i y d hy hd=>h (i+1) y d hy hd,List.map_cons]
theorem snap_prog {h:H} {v:AV} {K:Pg} (p:PR h v ↑K.dep K.C K.S):cL 5 h v=some K.av:=by
 obtain⟨fv,w,F,rfl,hF,hl,hc⟩:=p
 have hall:all0 (cL 3 h) F=some (K.C.map fun c => .sl .no (c.map fR)):=all0_funs hl fun i x c hx hcc=>snap_code (hc i x c hx hcc) 1
 have hfun:cL 4 h fv=some (.sl .no (K.C.map cN)):=by
  rcases hF with ⟨rfl,rfl⟩|⟨id,rfl,hg,_⟩
  ·have:K.C=[]:=List.eq_nil_of_length_eq_zero (by rw[←hl];rfl)
   rw[this];rfl
  ·show cE (cL 3 h) h (.rs id F.length true)=_
   simp only[cE,hg,Nat.mul_one,bV.2 rfl,Bool.and_self,cond_true,hall]
   have e1:chunks 1 F.length (K.C.map fun c=>AV.sl .no (c.map fR))=(K.C.map fun c=>AV.sl .no (c.map fR)).map fun x => .agg [x]:=by
    rw[←chunks1,List.length_map,hl]
   rw[e1,List.map_map]
   rfl
 have hstr:cL 4 h (.sl w (strs K.S))=some (.sl .no (strs K.S)):=by
  show cE (cL 3 h) h (.sl w (strs K.S))=_
  simp only[cE,snap_strs (k:=2) (h:=h) K.S]
 show cE (cL 4 h) h (.agg [.int .i64 ↑K.dep,fv,.sl w (strs K.S)])=_
 simp only[cE,all0,hfun,hstr]
 rfl
theorem snapBool_ok {E:Go.Ev.Env} (hE:dW Tryz.prog E) {f k:Nat} {fn:Func} (q1:Tryz.prog.funcs[f]?=some fn) (q2:(fn.name == "runtime.NumGoroutine")=false) (q3:fn.body.isNone=false) {p:List AV→Option AV}
  (hp:∀ args v,p args=some v→∃ b h1,v = .bool b∧evL E f args ⟨.e,0⟩=some (.bool b,h1)):cJ Tryz.prog f (primSnap k p):=
 primSnap_ok q1 q2 q3 fun args v hv G w A I hA=>by
  obtain⟨b,h1,rfl,he⟩:=hp args v hv
  obtain⟨n,hn⟩:=lim_ex he
  refine((fn_sim hE n f _ _ _ _ hn).2 (Gp G) w A I hA).mono ?_
  rintro e w' ⟨G',V,rfl,hV,hI,hX⟩
  cases hV
  exact⟨_,rfl,⟨hX.os,hX.tape,hX.output,hX.size,fun j hj=>(hX.own j hj rfl).1⟩,fun G' _ => .bool b⟩
noncomputable abbrev pIs15:List AV→Option AV:=eA fun args v=>v = .bool true∧∃ K:Pg,args=[K.av]∧WT K∧Is13 K
theorem env_kok:KOk env:=⟨rfl,rfl,rfl,fun k hk=>by
 have hall:([13,31,56,57,58,59,93,94,95,96].all fun k=>(env.prim k).isNone)=true:=by kernel_rfl
 exact Option.isNone_iff_eq_none.1 (List.all_eq_true.1 hall k hk)⟩
theorem p13_ok:cJ Tryz.prog 13 (primSnap 5 pIs15):=snapBool_ok env_ok (fn:=Tryz.f13) Tryz.func13 (by kernel_rfl) (by kernel_rfl) fun args v hv=>by
 obtain⟨rfl,K,rfl,wt,hI⟩:=fY hv
 obtain⟨h',hh⟩:=is15_run env_kok wt hI ⟨.e,0⟩
 exact⟨true,h',rfl,hh⟩
theorem is15_call {E:Go.Ev.Env} (hp:E.prim 13=some (primSnap 5 pIs15)) {h:H} {v:AV} {K:Pg} (p:PR h v ↑K.dep K.C K.S) (wt:WT K) (hI:Is13 K):evL E 13 [v] h=some (.bool true,h):=by
 rw[evL_prim E hp]
 have:pIs15 [K.av]=some (.bool true):=ofRel_of ⟨rfl,K,rfl,wt,hI⟩ fun u hu=>hu.1
 simp only[primSnap,all0,snap_prog p,this]
noncomputable abbrev pTok:List AV→H→Option (AV × H):=aW (Lx.pS (fun _=>true) Lx.toks)
theorem p27_ok:cJ Tryz.prog 27 pTok:=pureL_ok Ly.env10_ok (fn:=Tryz.f27) Tryz.func27 (by kernel_rfl) (by kernel_rfl) fun args v hv=>by
 unfold Lx.pS at hv
 split at hv
 ·simp only[cond_true,Option.some.injEq]at hv
  subst hv
  rename_i s
  exact Ly.rtoks_run s
 ·simp at hv
noncomputable abbrev eP:Go.Ev.Env:=bH env 27 pTok
theorem eP_ok:dW Tryz.prog eP:=bD env_ok p27_ok
theorem eP_pok:Pa.POk eP:=⟨rfl,rfl,rfl,fun k hk=>by
 have hall:([28,29,30,48,49,50,51,52,53,54,55,91,92,119,129,132,139,146,147,150].all fun k=>(eP.prim k).isNone)=true:=by kernel_rfl
 exact Option.isNone_iff_eq_none.1 (List.all_eq_true.1 hall k hk)⟩
theorem parse_ex (s:List Nat) (hs:Pa.okB s):∃ (t:Nd) (a er:Int),∃ v h',evL eP 12 [.str s] ⟨.e,0⟩=some (.tup [v,.int .i64 a,.int .i64 er],h')∧Pa.Nv v t:=by
 obtain⟨v,h',t,a,er,h1,h2⟩:=Pa.parse_run eP_pok (by kernel_rfl) (fun s h=>Lx.pS_call (q:=fun _=>true) (r:=Lx.toks) (by kernel_rfl) h s rfl) hs ⟨.e,0⟩
 exact⟨t,a,er,v,h',h1,h2⟩
noncomputable def pfN (s:List Nat):Nd:=by classical exact if h:Pa.okB s then(parse_ex s h).choose else .mk [] [] [] 0 0 []
noncomputable def pfA (s:List Nat):Int:=by classical exact if h:Pa.okB s then(parse_ex s h).choose_spec.choose else 0
noncomputable def pfE (s:List Nat):Int:=by classical exact if h:Pa.okB s then(parse_ex s h).choose_spec.choose_spec.choose else 0
theorem pf_spec (s:List Nat) (hs:Pa.okB s):∃ v h',evL eP 12 [.str s] ⟨.e,0⟩=some (.tup [v,.int .i64 (pfA s),.int .i64 (pfE s)],h')∧Pa.Nv v (pfN s):=by
 unfold pfN pfA pfE
 rw[dif_pos hs,dif_pos hs,dif_pos hs]
 exact(parse_ex s hs).choose_spec.choose_spec.choose_spec
theorem pf_fit (s:List Nat) (hs:Pa.okB s):fit (pfN s):=by
 obtain⟨v,h',_,_,_,_,_,hf⟩:=pf_spec s hs
 exact hf
noncomputable abbrev pParse:List AV→Option AV:=eA fun args v=>∃ s,AV.wks 0 args [.str s]∧Pa.okB s∧v = .tup [(pfN s).av,.int .i64 (pfA s),.int .i64 (pfE s)]
theorem p12_ok:cJ Tryz.prog 12 (cF pParse):=primVal_ok eP_ok (fn:=Tryz.f12) (by kernel_rfl) Pa.body12 fun args v hv=>by
 obtain⟨s,hw,hs,rfl⟩:=fY hv
 obtain⟨u,h',h1,w,ks,rfl,hk,_⟩:=pf_spec s hs
 refine⟨by rw[(cS.1 hw).1];rfl,_,hw,_,_,cY (by kernel_rfl) (by kernel_rfl) Pa.body12 rfl h1,?_⟩
 exact wk_tup.2 (cK.2 ⟨Pa.dF hk,cK.2 ⟨wk_int,cK.2 ⟨wk_int,wks_nil⟩⟩⟩)
theorem parse_call {E:Go.Ev.Env} (hp:E.prim 12=some (cF pParse)) (s:List Nat) (hs:Pa.okB s) (h:H):evL E 12 [.str s] h=some (.tup [(pfN s).av,.int .i64 (pfA s),.int .i64 (pfE s)],h):=by
 have:pParse [.str s]=some (.tup [(pfN s).av,.int .i64 (pfA s),.int .i64 (pfE s)]):=ofRel_of ⟨s,wks1.2 wk_str,hs,rfl⟩ fun u hu=>by
  obtain⟨s',hw,_,rfl⟩:=hu
  have e1:s=s':=congrArg Str.s (Enc.inj (α:=Str) (a:=⟨s⟩) (b:=⟨s'⟩) (x := .str s) wk_str (wks1.1 hw))
  rw[e1]
 rw[evL_prim E hp,cF,this]
end Go.Proofs.YtogjplcnmibnlaaGreatDoor.Ck
namespace Go.Proofs.YtogjplcnmibnlaaGreatDoor.Ck
open Go.Ev Go.Ev.Nd Go.Proofs.YtogjplcnmibnlaaGreatDoor.Env
attribute [local simp] bC aX bA bT aL aN aQ bX bF bW dE cD aV AV.cells aG aZ val aH bN bP cP bG eI aU aO aM bY bI recheck H.new H.put cT aY bB AV.one setArgs bQ bS bJ aR aP bK
noncomputable abbrev eT:Go.Ev.Env:=bH (bH eC 12 (cF pParse)) 13 (primSnap 5 pIs15)
theorem eT_ok:dW Tryz.prog eT:=bD (bD eC_ok p12_ok) p13_ok
theorem eT_no:[4,8,9,10,17,20,22,23,24,26,34,38,42,43,44,45,46,69,70,71,72,73,74,75,76,77,78,79,80,81,82,83,84,113,114,115,116,117].all (fun k=>(eT.prim k).isNone)=true:=by kernel_rfl
theorem eT_none {k:Nat} (h:k∈[4,8,9,10,17,20,22,23,24,26,34,38,42,43,44,45,46,69,70,71,72,73,74,75,76,77,78,79,80,81,82,83,84,113,114,115,116,117]):eT.prim k=none:=Option.isNone_iff_eq_none.1 (List.all_eq_true.1 eT_no k h)
theorem eT_of:EOf eT:=⟨rfl,rfl,rfl,fun k hk=>eT_none (by simp only[List.mem_cons,List.not_mem_nil,or_false]at hk ⊢;omega),by kernel_rfl,by kernel_rfl,by kernel_rfl,by kernel_rfl,by kernel_rfl,by kernel_rfl,by kernel_rfl,by kernel_rfl⟩
theorem k11T (h:H):evL eT 11 [] h=some (.bool true,h):=by
 rw[evL_prim eT (by kernel_rfl:eT.prim 11=some (primBool true))]
 rfl
theorem body4:Tryz.f4.body=some (aC Tryz.f4 []):=rfl
theorem law4 (s:List Nat) (hs:Pa.okB s):∃ h',evL eT 4 [.str s] ⟨.e,0⟩=some (.bool true,h'):=by
 have hty:eT.ty=env.ty:=rfl
 have hpl:eT.plan=env.plan:=rfl
 have k12:=fun h=>parse_call (E:=eT) (by kernel_rfl) s hs h
 have hp13:eT.prim 13=some (primSnap 5 pIs15):=by kernel_rfl
 have k11:=k11T
 have hf:=pf_fit s hs
 generalize pfN s=t at *
 generalize pfA s=pa at *
 generalize pfE s=pe at *
 obtain⟨y,hy⟩:∃ y,evL eT 4 [.str s] ⟨.e,0⟩=y:=⟨_,rfl⟩
 rw[hy]
 rw[bE eT (eT_none (by simp)) (by kernel_rfl) body4 _ _ rfl]at hy
 simp only[aC,sub,Tryz.f4]at hy
 cases h500:ltI 500 ↑s.length with
 | true=>
  rw[bZ t]at k12
  generalize eT=E at *
  simp[EVT,aT,TYC,hty,k12,h500]at hy
  exact⟨_,hy.symm⟩
 | false=>
 cases hpe:aE pe 0 with
 | false=>
  rw[bZ t]at k12
  generalize eT=E at *
  simp[EVT,aT,TYC,hty,k12,h500,hpe]at hy
  exact⟨_,hy.symm⟩
 | true=>
  obtain⟨h0,hh0⟩:∃ h0:H,h0=⟨(T.e.set 0 (.cells [.str [],.str [],.str [],.int .i64 0,.int .i64 0,.sl .full []])).set 0 (.cells [.str t.op,.str t.name,.str t.arg,.int .i64 t.n,.int .i64 t.at_,.sl .no (avs t.kids)]),0+1⟩:=⟨_,rfl⟩
  have b0:h0.t.get 0=some (.cells [.str t.op,.str t.name,.str t.arg,.int .i64 t.n,.int .i64 t.at_,.sl .no (avs t.kids)]):=by rw[hh0];exact T.bO _ _ _
  have nx0:h0.nx=1:=by rw[hh0]
  obtain⟨h1,v1,k8,n1,g1,p1⟩:=of_run eT_of t hf [] .full (by simp) h0
  obtain⟨h1a,hh1a⟩:∃ h1a:H,h1a=⟨(h1.t.set h1.nx (.cells zeroC)).set h1.nx (.cells v1.cells),h1.nx+1⟩:=⟨_,rfl⟩
  have g1a:∀ j,j<h1.nx→h1a.t.get j=h1.t.get j:=fun j hj=>by
   rw[hh1a];simp only[T.aA];repeat rw[if_neg (by omega)]
  have nx1a:h1a.nx=h1.nx+1:=by rw[hh1a]
  have p1a:=p1.grow (h':=h1a) (by omega) g1a
  obtain⟨h2,v2,k9,n2,g2,p2⟩:=of14_run eT_of t hf [] .full (by simp) (vd_all t hf []) (fun his=>⟨by have:=is_size his;rw[←Tr.free_eq this.2 hf];have:=Tr.freeT_len t;omega,hf,by have:=is_size his;omega⟩) h1a
  obtain⟨h2a,hh2a⟩:∃ h2a:H,h2a=⟨(h2.t.set h2.nx (.cells zeroC)).set h2.nx (.cells v2.cells),h2.nx+1⟩:=⟨_,rfl⟩
  have g2a:∀ j,j<h2.nx→h2a.t.get j=h2.t.get j:=fun j hj=>by
   rw[hh2a];simp only[T.aA];repeat rw[if_neg (by omega)]
  have nx2a:h2a.nx=h2.nx+1:=by rw[hh2a]
  have p1b:=(p1a.grow (h':=h2) n2 g2).grow (h':=h2a) (by omega) g2a
  have p2b:=p2.grow (h':=h2a) (by omega) g2a
  rw[←ofF_eq t hf []]at p2b k9
  obtain⟨s1,s2,s3⟩:=ofF_small (Tr.isR t) (Tr.dM t) t [] fun his=>⟨(is_size his).1,each_ar t (is_size his).2⟩
  obtain⟨h3,k10,n3,g3⟩:=Env.same_run eT_of p1b p2b s1 s2 s3
  have p1c:=p1b.grow (h':=h3) n3 g3
  have k13:aE (ofF (Tr.isR t) (Tr.dM t) t []).2.2.2 0=true→evL eT 13 [v1] h3=some (.bool true,h3):=by
   intro hz
   have vd:=vd_all t hf []
   have hfe:Tr.isR t=true→Tr.dM t=Tr.freeRF t:=fun his=>Tr.free_eq (is_size his).2 hf
   unfold ofF at hz p1c
   cases q1:(!Tr.isR t||(ltI 4 ↑([]:List Str).length||dT (Tr.dM t) []))with
   | true=>rw[q1]at hz;simp only[cond_true]at hz;exact absurd hz (by decide)
   | false=>
    rw[q1]at hz p1c
    simp only[cond_false]at hz p1c
    cases q2:(ltI 200 ↑(cZ (gen t.dep) t [] [] 0).2.length||longL (cZ (gen t.dep) t [] [] 0).2)with
    | true=>rw[q2]at hz;simp only[cond_true]at hz;exact absurd hz (by decide)
    | false=>
     rw[q2]at p1c
     simp only[cond_false]at p1c
     simp only[Bool.or_eq_false_iff,Bool.not_eq_false']at q1 q2
     have his:=q1.1
     obtain⟨K,e1,e2,e3,wt,hI⟩:=wt_of his (vd his (by rw[←hfe his];exact q1.2.2)) (by simp) (by have:=q2.1;rw[dI]at this;simp at this;omega) (fun c hc=>by
      have:=List.any_eq_false.1 q2.2 c hc
      rw[Bool.not_eq_true,dI]at this
      simp at this
      omega)
     exact is15_call hp13 (K:=K) (by rw[e1,e2,e3];exact p1c) wt hI
  have b1:h1.t.get 0=some (.cells [.str t.op,.str t.name,.str t.arg,.int .i64 t.n,.int .i64 t.at_,.sl .no (avs t.kids)]):=(g1 0 (by omega)).trans b0
  have b1a:=(g1a 0 (by omega)).trans b1
  have c2:h2.t.get h1.nx=some (.cells v1.cells):=by rw[g2 h1.nx (by omega),hh1a];exact T.bO _ _ _
  have c2a:h2a.t.get h1.nx=some (.cells v1.cells):=(g2a _ (by omega)).trans c2
  have c3:h3.t.get h1.nx=some (.cells v1.cells):=(g3 _ (by omega)).trans c2a
  clear p1c p1b p2b p1a
  obtain⟨fv1,w1,F1,e1,r1,_,_⟩:=p1
  obtain⟨fv2,w2,F2,e2,r2,_,_⟩:=p2
  have o1:=r1.shape
  have o2:=r2.shape
  clear r1 r2
  subst e1
  subst e2
  have hq:aE (ofF (Tr.isR t) (Tr.dM t) t []).2.2.2 (ofF (Tr.isR t) (Tr.dM t) t []).2.2.2=true:=dN.2 rfl
  generalize (ofF (Tr.isR t) (Tr.dM t) t []).2.2.2=er at *
  generalize (ofF (Tr.isR t) (Tr.dM t) t []).2.2.1=eS at *
  generalize (ofF (Tr.isR t) (Tr.freeRF t) t []).2.2.1=eS2 at *
  generalize (ofF (Tr.isR t) (Tr.dM t) t []).1=eD at *
  generalize (ofF (Tr.isR t) (Tr.freeRF t) t []).1=eD2 at *
  have z1:0≠h1.nx:=by omega
  have z2:h1.nx≠h2.nx:=by omega
  rw[bZ t]at k12 k8 k9
  rw[hh0]at k8
  rw[hh1a]at k9
  rw[hh2a]at k10
  simp only[zeroC,AV.cells]at k9 k10 c2 c2a c3
  rw[show strs ([]:List Str)=[] from rfl]at k8 k9
  generalize eT=E at *
  cases he0:aE er 0 with
  | true=>
   have k13':=k13 he0
   rcases o1 with rfl|⟨i1,m1,rfl⟩<;>rcases o2 with rfl|⟨i2,m2,rfl⟩<;>simp[EVT,aT,TYC,hty,k12,h500,hpe,k8,k9,k10,k11,k13',he0,b1,c2,c3,z1,z2,hq]at hy<;>exact⟨_,hy.symm⟩
  | false=>
   clear k13
   rcases o1 with rfl|⟨i1,m1,rfl⟩<;>rcases o2 with rfl|⟨i2,m2,rfl⟩<;>simp[EVT,aT,TYC,hty,k12,h500,hpe,k8,k9,k10,k11,he0,b1,c2,z1,z2,hq]at hy<;>exact⟨_,hy.symm⟩
end Go.Proofs.YtogjplcnmibnlaaGreatDoor.Ck
