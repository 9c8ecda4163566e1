/- What is a program that was made; strange names, long codes: the library's loops. -/
import Derived.Test.YtogjplcnmibnlaaGreatDoorCRowN
import Derived.Test.YtogjplcnmibnlaaGreatDoorCTXNum
set_option autoImplicit false
set_option maxRecDepth 100000
set_option maxHeartbeats 8000000
set_option linter.unusedSimpArgs false
set_option linter.unusedVariables false
namespace Go.Proofs.YtogjplcnmibnlaaGreatDoor.Env
open Go.Ev Go.Ev.Nd
attribute [local simp] bC aX bA bT aL aN aQ bX bF bW dE cD aV AV.cells aG aZ val aH bN bP cP bG eI aU aO aM bY bI recheck H.new H.put cT aY bB AV.one setArgs bQ bS bJ aR aP bK
def PR (h:H) (v:AV) (d:Int) (C:List (List Ins)) (S:List Str):Prop:=
 ∃ fv w F,v = .agg [.int .i64 d,fv,.sl w (strs S)]∧FunsR h fv F∧F.length=C.length∧∀ (i:Nat) x c,F[i]?=some x→C[i]?=some c→fI h x c
theorem FunsR.mono {h h':H} {v:AV} {F:List AV} (c:FunsR h v F) (hn:h.nx≤h'.nx) (hg:∀ j,cB v=some j→j<h.nx→h'.t.get j=h.t.get j):FunsR h' v F:=by
 rcases c with e|⟨id,e,hi,hlt⟩
 ·exact .inl e
 ·exact .inr ⟨id,e,by rw[hg id (by rw[e];rfl) hlt];exact hi,Nat.lt_of_lt_of_le hlt hn⟩
theorem PR.grow {h h':H} {v:AV} {d:Int} {C:List (List Ins)} {S:List Str} (p:PR h v d C S) (hn:h.nx≤h'.nx) (hg:∀ j,j<h.nx→h'.t.get j=h.t.get j):PR h' v d C S:=by
 obtain⟨fv,w,F,e,f,l,c⟩:=p
 exact⟨fv,w,F,e,f.mono hn fun j _ hj=>hg j hj,l,fun i x k hx hk=>(c i x k hx hk).mono hn fun j _ hj=>hg j hj⟩
theorem FunsR.len {h:H} {v:AV} {F:List AV} (c:FunsR h v F) (hl:F.length≤1000000):(v = .sl .full []∧F=[])∨∃ id,v = .rs id F.length true∧h.t.get id=some (.row F.length 54 1 F)∧id<h.nx:=c
structure EOf (E:Env):Prop where
 ty:E.ty=env.ty
 pl:E.plan=env.plan
 fn:E.fns=env.fns
 no:∀ k∈[8,9,10,17,20,22,23,24,26,34,38,42,43,44,45,46,69,70,71,72,73,74,75,76,77,78,79,80,81,82,83,84,113,114,115,116,117],E.prim k=none
 gr:E.prim 127=some (primGrow 9 1 16)
 has:E.prim 18=some Tr.pHasS
 hasR:E.prim 25=some Tr.pHasS
 is:E.prim 19=some Tr.pIsT
 isR:E.prim 14=some Tr.pIsR
 free:E.prim 21=some Tr.pTFree
 freeR:E.prim 15=some Tr.pRFree
 size:E.prim 7=some Tr.pSize
theorem EOf.a {E:Env} (e:EOf E):EOk E:=⟨e.ty,e.pl,e.fn,fun k hk=>e.no k (by simp only[List.mem_cons,List.not_mem_nil,or_false]at hk ⊢;omega),e.gr⟩
theorem EOf.b {E:Env} (e:EOf E):EOk14 E:=⟨e.ty,e.pl,e.fn,fun k hk=>e.no k (by simp only[List.mem_cons,List.not_mem_nil,or_false]at hk ⊢;omega)⟩
theorem body17:Tryz.f17.body=some (aC Tryz.f17 []):=rfl
theorem strange_run {E:Env} (e:EOf E) {b:Nat} {oe:Go.Ev.Own} {en:List Str} (hen:en.length≤1000000) {h:H} (hb:h.t.get b=some (.cells [.sl oe (strs en)])) (v:List Nat) :
  evL E 17 [.str v,.ptr (some (b,0))] h=some (.bool (!dA en v),h):=by
 have hty:=e.ty
 have hpl:=e.pl
 have k:=fun h=>Tr.cHas e.has oe en v (by omega) h
 rw[bE E (e.no 17 (by simp)) (by rw[e.fn];kernel_rfl) body17 _ _ rfl]
 simp only[aC,sub,Tryz.f17]
 simp[EVT,aT,TYC,hty,hb,k]
def dT (L en:List Str):Bool:=L.any fun t => !dA en t.s
noncomputable def b38_0:Code:=aK Tryz.f38 0
theorem body38:Tryz.f38.body=some (.seq (aC Tryz.f38 [0]) (.seq (.seq (aC Tryz.f38 [1,0,0]) (.block 0 (.loop b38_0))) (aC Tryz.f38 [1,1]))):=rfl
theorem loop38 {E:Env} (e:EOf E) {b:Nat} {o oe:Go.Ev.Own} {L en:List Str} (hen:en.length≤1000000) (hl:L.length≤1000000) {h:H} (hb:h.t.get b=some (.cells [.sl oe (strs en)])):∀ (l:List Str) (i:Nat) {tm:Tm} {x:Option (Ex × Tm × H)},cdL E 38 19 (.loop b38_0) tm h=x→l=L.drop i→i≤L.length →
  tm.get 0=some (.sl o (strs L))→tm.get 1=some (.fn 17 [] [.ptr (some (b,0))])→tm.get 7=some (.int .i64 ↑L.length)→tm.get 8=some (.int .i64 ↑i) →
  ∃ tm',x=some (bif dT l en then .ret else .exit 0,tm',h)∧(dT l en=true→∃ j:Nat,tm'.get 4=some (.int .i64 ↑j))
 | [],i,tm,x,hx,hd,hi,h0,h1,h7,h8=>by
  have hlen:=dnil hd hi
  have hty:=e.ty
  have hpl:=e.pl
  obtain⟨R,hR,hx⟩:=aS hx
  simp[b38_0,aK,Tryz.f38,loops,EVT,lp,hty,h7,h8,hlen,dZ]at hx
  exact⟨_,by rw[←hx];rfl,by simp[dT]⟩
 | c::l,i,tm,x,hx,hd,hi,h0,h1,h7,h8=>by
  obtain⟨hlt,hc,hd'⟩:=gC hd
  have hty:=e.ty
  have hpl:=e.pl
  have hat:=strs_get hc
  have k:=strange_run e hen hb c.s
  obtain⟨R,hR,hx⟩:=aS hx
  have hlt':=eR hlt
  have hw:=cH (i:=i) (by omega)
  cases hs:dA en c.s with
  | false=>
   rw[hs]at k
   simp[b38_0,aK,Tryz.f38,loops,EVT,TYC,lp,hty,h0,h1,h7,h8,hlt',hat,k]at hx
   exact⟨_,by rw[←hx];simp[dT,hs];rfl,fun _=>⟨i,by simp[T.aA]⟩⟩
  | true=>
   rw[hs]at k
   simp[b38_0,aK,Tryz.f38,loops,EVT,TYC,lp,hty,h0,h1,h7,h8,hlt',hat,k,hw]at hx
   rw[hR]at hx
   have e1:dT (c::l) en=dT l en:=by simp[dT,hs]
   rw[e1]
   exact loop38 e (o:=o) hen hl hb l (i+1) hx hd' hlt (by simp[T.aA,h0]) (by simp[T.aA,h1]) (by simp[T.aA,h7]) (by simp[T.aA])
theorem body20:Tryz.f20.body=some (aC Tryz.f20 []):=rfl
theorem any20_run {E:Env} (e:EOf E) {b:Nat} {o oe:Go.Ev.Own} {L en:List Str} (hen:en.length≤1000000) (hl:L.length≤1000000) {h:H} (hb:h.t.get b=some (.cells [.sl oe (strs en)])) :
  evL E 20 [.sl o (strs L),.fn 17 [] [.ptr (some (b,0))]] h=some (.bool (dT L en),h):=by
 have hty:=e.ty
 have hpl:=e.pl
 have hil:=cA L
 have K:∃ n:Int,evL E 38 [.sl o (strs L),.fn 17 [] [.ptr (some (b,0))]] h=some (.int .i64 n,h)∧ltI n 0 = !dT L en:=by
  rw[bE E (e.no 38 (by simp)) (by rw[e.fn];kernel_rfl) body38 _ _ rfl]
  simp only[aC,sub,Tryz.f38]
  simp[EVT,aT,TYC,hty,hil]
  generalize hx:cdL E 38 19 (.loop b38_0) _ _=x
  obtain⟨tm',rfl,g⟩:=loop38 e (o:=o) hen hl hb L 0 hx rfl (Nat.zero_le _) (by simp[T.aA]) (by simp[T.aA]) (by simp[T.aA]) (by simp[T.aA])
  cases hs:dT L en with
  | true=>
   obtain⟨j,hj⟩:=g hs
   refine⟨↑j,by simp[hj],?_⟩
   rw[dI];simp
  | false=>exact⟨-1,by simp[EVT],rfl⟩
 obtain⟨n,k,hn⟩:=K
 rw[bE E (e.no 20 (by simp)) (by rw[e.fn];kernel_rfl) body20 _ _ rfl]
 simp only[aC,sub,Tryz.f20]
 simp[EVT,aT,hty,k,hn]
def longL (C:List (List Ins)):Bool:=C.any fun c=>ltI 4000 ↑c.length
theorem body23:Tryz.f23.body=some (aC Tryz.f23 []):=rfl
theorem long_run {E:Env} (e:EOf E) {h:H} {v:AV} {c:List Ins} (hc:fI h v c):evL E 23 [v] h=some (.bool (ltI 4000 ↑c.length),h):=by
 have hty:=e.ty
 have hpl:=e.pl
 rw[bE E (e.no 23 (by simp)) (by rw[e.fn];kernel_rfl) body23 _ _ rfl]
 simp only[aC,sub,Tryz.f23]
 rcases hc with ⟨rfl,rfl⟩|⟨id,rfl,hg,hi⟩
 ·simp[EVT,aT,TYC,hty]
 ·simp[EVT,aT,TYC,hty]
noncomputable def b44_0:Code:=aK Tryz.f44 0
theorem body44:Tryz.f44.body=some (.seq (aC Tryz.f44 [0]) (.seq (.seq (aC Tryz.f44 [1,0,0]) (.block 0 (.loop b44_0))) (aC Tryz.f44 [1,1]))):=rfl
theorem fI.cell {h:H} {v:AV} {c:List Ins} (hc:fI h v c):v.cells=[v]:=by rcases hc with ⟨rfl,_⟩|⟨id,rfl,_⟩<;>rfl
theorem loop44 {E:Env} (e:EOf E) {id:Nat} {F:List AV} {C:List (List Ins)} (hl:F.length≤1000000) {h:H} (hg:h.t.get id=some (.row F.length 54 1 F)) (hln:F.length=C.length) (hcs:∀ (i:Nat) x c,F[i]?=some x→C[i]?=some c→fI h x c):∀ (l:List (List Ins)) (i:Nat) {tm:Tm} {x:Option (Ex × Tm × H)},cdL E 44 19 (.loop b44_0) tm h=x→l=C.drop i→i≤C.length →
  tm.get 0=some (.rs id F.length true)→tm.get 1=some (.fn 23 [] [])→tm.get 7=some (.int .i64 ↑C.length)→tm.get 8=some (.int .i64 ↑i) →
  ∃ tm',x=some (bif longL l then .ret else .exit 0,tm',h)∧(longL l=true→∃ j:Nat,tm'.get 4=some (.int .i64 ↑j))
 | [],i,tm,x,hx,hd,hi,h0,h1,h7,h8=>by
  have hlen:=dnil hd hi
  have hty:=e.ty
  have hpl:=e.pl
  obtain⟨R,hR,hx⟩:=aS hx
  simp[b44_0,aK,Tryz.f44,loops,EVT,lp,hty,h7,h8,hlen,dZ]at hx
  exact⟨_,by rw[←hx];rfl,by simp[longL]⟩
 | c::l,i,tm,x,hx,hd,hi,h0,h1,h7,h8=>by
  obtain⟨hlt,hc,hd'⟩:=gC hd
  have hty:=e.ty
  have hpl:=e.pl
  have hfl:i<F.length:=by omega
  have hfi:F[i]?=some F[i]:=List.getElem?_eq_getElem hfl
  have hcr:=hcs i F[i] c hfi hc
  obtain⟨v,hve⟩:∃ v,F[i]=v:=⟨_,rfl⟩
  rw[hve]at hfi hcr
  have k:=long_run e hcr
  have hcell:=hcr.cell
  have hone:=hcr.one
  obtain⟨R,hR,hx⟩:=aS hx
  have hlt':=eR hlt
  have hw:=cH (i:=i) (by omega)
  have hbl:Nat.blt i F.length=true:=cR.2 hfl
  have hle:i+1≤F.length:=hfl
  cases hs:ltI 4000 ↑c.length with
  | true=>
   rw[hs]at k
   simp[b44_0,aK,Tryz.f44,loops,EVT,TYC,lp,hty,h0,h1,h7,h8,hlt',hg,hve,hfl,hle,k]at hx
   exact⟨_,by rw[←hx];simp[longL,hs];rfl,fun _=>⟨i,by simp[T.aA]⟩⟩
  | false=>
   rw[hs]at k
   simp[b44_0,aK,Tryz.f44,loops,EVT,TYC,lp,hty,h0,h1,h7,h8,hlt',hg,hve,hfl,hle,k,hw]at hx
   rw[hR]at hx
   have e1:longL (c::l)=longL l:=by simp[longL,hs]
   rw[e1]
   exact loop44 e hl hg hln hcs l (i+1) hx hd' hlt (by simp[T.aA,h0]) (by simp[T.aA,h1]) (by simp[T.aA,h7]) (by simp[T.aA])
theorem body24:Tryz.f24.body=some (aC Tryz.f24 []):=rfl
theorem any24_run {E:Env} (e:EOf E) {fv:AV} {F:List AV} {C:List (List Ins)} (hl:F.length≤1000000) {h:H} (hf:FunsR h fv F) (hln:F.length=C.length) (hcs:∀ (i:Nat) x c,F[i]?=some x→C[i]?=some c→fI h x c) :
  evL E 24 [fv,.fn 23 [] []] h=some (.bool (longL C),h):=by
 have hty:=e.ty
 have hpl:=e.pl
 have K:∃ n:Int,evL E 44 [fv,.fn 23 [] []] h=some (.int .i64 n,h)∧ltI n 0 = !longL C:=by
  rcases hf with ⟨rfl,rfl⟩|⟨id,rfl,hg,hi⟩
  ·have:C=[]:=List.eq_nil_of_length_eq_zero hln.symm
   subst this
   refine⟨-1,?_,rfl⟩
   rw[bE E (e.no 44 (by simp)) (by rw[e.fn];kernel_rfl) body44 _ _ rfl]
   simp only[aC,sub,Tryz.f44]
   simp[EVT,aT,TYC,hty]
   generalize hx:cdL E 44 19 (.loop b44_0) _ _=x
   obtain⟨R,hR,hx⟩:=aS hx
   have h00:ltI 0 0=false:=rfl
   simp[b44_0,aK,Tryz.f44,loops,EVT,lp,hty,h00]at hx
   rw[←hx]
   simp[EVT]
  ·rw[bE E (e.no 44 (by simp)) (by rw[e.fn];kernel_rfl) body44 _ _ rfl]
   simp only[aC,sub,Tryz.f44]
   simp[EVT,aT,TYC,hty]
   generalize hx:cdL E 44 19 (.loop b44_0) _ _=x
   obtain⟨tm',rfl,g⟩:=loop44 e hl hg hln hcs C 0 hx rfl (Nat.zero_le _) (by simp[T.aA]) (by simp[T.aA]) (by simp[T.aA,hln]) (by simp[T.aA])
   cases hs:longL C with
   | true=>
    obtain⟨j,hj⟩:=g hs
    refine⟨↑j,by simp[hj],?_⟩
    rw[dI];simp
   | false=>exact⟨-1,by simp[EVT],rfl⟩
 obtain⟨n,k,hn⟩:=K
 rw[bE E (e.no 24 (by simp)) (by rw[e.fn];kernel_rfl) body24 _ _ rfl]
 simp only[aC,sub,Tryz.f24]
 simp[EVT,aT,hty,k,hn]
def ofF (is:Bool) (free:List Str) (t:Nd) (en:List Str):Int × List (List Ins) × List Str × Int:=
 bif !is||(ltI 4 ↑en.length||dT free en)then(0,[],[],1)else
 bif ltI 200 ↑(cZ (gen t.dep) t en [] 0).2.length||longL (cZ (gen t.dep) t en [] 0).2 then(0,[],[],7)else(↑en.length,(cZ (gen t.dep) t en [] 0).2,(cZ (gen t.dep) t en [] 0).1,0)
theorem PR.zero (h:H):PR h (.agg [.int .i64 0,.sl .full [],.sl .full []]) 0 [] []:=⟨.sl .full [],.full,[],rfl,.inl ⟨rfl,rfl⟩,rfl,fun i x c hx=>by simp at hx⟩
theorem dep_size:∀ t:Nd,t.dep≤t.size:=by
 intro t
 have h:∀ (n:Nat) (t:Nd),t.size≤n→t.dep≤t.size:=by
  intro n
  induction n with
  | zero=>intro t ht;have:=size_eq t;omega
  | succ n ih=>
   intro t ht
   have hs:=size_eq t
   have hd:=dep_eq t
   have key:∀ l:List Nd,dU l≤n→deps l≤dU l:=by
    intro l
    induction l with
    | nil=>intro _;simp[deps,dU]
    | cons a l ihl=>
     intro hl
     simp only[dU]at hl
     have h1:=ih a (by omega)
     have h2:=ihl (by omega)
     simp only[deps,dU]
     have:a.dep=dep a:=rfl
     omega
   have:=key t.kids (by omega)
   omega
 exact h t.size t (Nat.le_refl _)
theorem ar_known {o:List Nat} {k:Nat} (h:arity o=some k):Tr.dS o=↑k:=by
 unfold arity at h
 cases c0:aB o oFun with
 | true=>rw[c0]at h;simp at h;subst h;rw[nb_of c0];rfl
 | false=>
 rw[c0]at h
 cases c1:aB o oLet with
 | true=>rw[c1]at h;simp at h;subst h;rw[nb_of c1];rfl
 | false=>
 rw[c1]at h
 cases c2:aB o oRec with
 | true=>rw[c2]at h;simp at h;subst h;rw[nb_of c2];rfl
 | false=>
 rw[c2]at h
 cases c3:aB o oTry with
 | true=>rw[c3]at h;simp at h;subst h;rw[nb_of c3];rfl
 | false=>
 rw[c3]at h
 cases c4:aB o oSeq with
 | true=>rw[c4]at h;simp at h;subst h;rw[nb_of c4];rfl
 | false=>
 rw[c4]at h
 cases c5:aB o oIf with
 | true=>rw[c5]at h;simp at h;subst h;rw[nb_of c5];rfl
 | false=>
 rw[c5]at h
 cases c6:aB o dV with
 | true=>rw[c6]at h;simp at h;subst h;rw[nb_of c6];rfl
 | false=>rw[c6]at h;simp at h
mutual
theorem each_ar:∀ t:Nd,Tr.eachF t=true→arOk t=true
 | .mk o p q n a ks,h=>by
  rw[Tr.eachF_eq]at h
  simp only[Bool.and_eq_true,Nd.op,Nd.kids]at h
  have hk:=dN.1 h.1
  simp only[arOk,Bool.and_eq_true]
  refine⟨?_,each_arL ks h.2.2⟩
  cases ha:arity o with
  | none=>rfl
  | some k=>
   have:=ar_known ha
   rw[hk]at this
   simp only
   exact bV.2 (by omega)
theorem each_arL:∀ l:List Nd,Tr.eachL l=true→arOkL l=true
 | [],_=>rfl
 | t::l,h=>by
  simp only[Tr.eachL,Bool.and_eq_true]at h
  simp only[arOkL,Bool.and_eq_true]
  exact⟨each_ar t h.1,each_arL l h.2⟩
end
theorem is_size {t:Nd} (h:Tr.isR t=true):t.size≤2000∧Tr.eachF t=true:=by
 unfold Tr.isR at h
 cases hb:ltI 2000 (Tr.sizeF t)with
 | true=>rw[hb]at h;simp at h
 | false=>
  rw[hb]at h
  simp only[cond_false]at h
  rw[dI]at hb
  simp at hb
  unfold Tr.sizeF at hb
  have:=Tr.szF_size t 2001 (by omega)
  rw[this]at hb
  exact⟨by omega,h⟩
theorem body8:Tryz.f8.body=some (aC Tryz.f8 []):=rfl
theorem of_run {E:Env} (e:EOf E) (t:Nd) (hf:fit t) (en:List Str) (oe:Go.Ev.Own) (hen:en.length≤100000) (h:H) :
  ∃ h' v,evL E 8 [t.av,.sl oe (strs en)] h=some (.tup [v,.int .i64 (ofF (Tr.isR t) (Tr.dM t) t en).2.2.2],h')∧h.nx≤h'.nx∧(∀ j,j<h.nx→h'.t.get j=h.t.get j) ∧
   PR h' v (ofF (Tr.isR t) (Tr.dM t) t en).1 (ofF (Tr.isR t) (Tr.dM t) t en).2.1 (ofF (Tr.isR t) (Tr.dM t) t en).2.2.1:=by
 have hty:=e.ty
 have hpl:=e.pl
 have hil:=cA en
 have k19:∀ h,evL E 19 [t.av] h=some (.bool (Tr.isR t),h):=fun h=>fG (a:=t) (F:=Tr.isR) e.is (Enc.bare 0 t) hf h
 have z1:h.nx+1≠h.nx:=by omega
 have z2:h.nx≠h.nx+1:=by omega
 have z3:h.nx≠h.nx+1+1:=by omega
 have z4:h.nx+1≠h.nx+1+1:=by omega
 have z5:h.nx+1+1≠h.nx:=by omega
 have z6:h.nx+1+1≠h.nx+1:=by omega
 have z7:h.nx≠h.nx+1+1+1:=by omega
 have z8:h.nx+1≠h.nx+1+1+1:=by omega
 have z9:h.nx+1+1≠h.nx+1+1+1:=by omega
 have errs:∀ k:Int,(∃ h',evL E 8 [t.av,.sl oe (strs en)] h=some (.tup [.agg [.int .i64 0,.sl .full [],.sl .full []],.int .i64 k],h')∧h.nx≤h'.nx∧∀ j,j<h.nx→h'.t.get j=h.t.get j) →
   ∃ h' v,evL E 8 [t.av,.sl oe (strs en)] h=some (.tup [v,.int .i64 k],h')∧h.nx≤h'.nx∧(∀ j,j<h.nx→h'.t.get j=h.t.get j)∧PR h' v 0 [] []:=fun k ⟨h',a,b,c⟩=>⟨h',_,a,b,c,.zero h'⟩
 have first:∀ (b:Bool),(!Tr.isR t||(ltI 4 ↑en.length||dT (Tr.dM t) en))=true→∃ h',evL E 8 [t.av,.sl oe (strs en)] h=some (.tup [.agg [.int .i64 0,.sl .full [],.sl .full []],.int .i64 1],h')∧h.nx≤h'.nx∧∀ j,j<h.nx→h'.t.get j=h.t.get j:=by
  intro b hb
  obtain⟨y,hy⟩:∃ y,evL E 8 [t.av,.sl oe (strs en)] h=y:=⟨_,rfl⟩
  rw[hy]
  rw[bE E (e.no 8 (by simp)) (by rw[e.fn];kernel_rfl) body8 _ _ rfl]at hy
  simp only[aC,sub,Tryz.f8]at hy
  rw[bZ t]at k19 hy
  cases his:Tr.isR t with
  | false=>
   rw[his]at k19
   simp[EVT,aT,TYC,hty,k19,z3]at hy
   refine⟨_,hy.symm,by simp only;omega,fun j hj => ?_⟩
   simp only[T.aA]
   repeat rw[if_neg (by omega)]
  | true=>
   rw[his]at k19
   cases hl4:ltI 4 ↑en.length with
   | true=>
    simp[EVT,aT,TYC,hty,k19,hil,hl4,z3]at hy
    refine⟨_,hy.symm,by simp only;omega,fun j hj => ?_⟩
    simp only[T.aA]
    repeat rw[if_neg (by omega)]
   | false=>
    obtain⟨hs,he⟩:=is_size his
    have k21:∀ h,evL E 21 [t.av] h=some (.sl .no (strs (Tr.dM t)),h):=fun h=>fG (a:=t) (F:=Tr.dM) e.free (Enc.bare 0 t) ⟨hf,by omega⟩ h
    have hfl:(Tr.dM t).length≤1000000:=by have:=Tr.freeT_len t;omega
    have k20:=fun (h':H) (hb:h'.t.get (h.nx+1)=some (.cells [.sl oe (strs en)]))=>any20_run e (b:=h.nx+1) (o := .no) (oe:=oe) (L:=Tr.dM t) (en:=en) (by omega) hfl hb
    rw[his,hl4]at hb
    simp at hb
    rw[hb]at k20
    rw[bZ t]at k21
    have k20':=k20 ⟨((h.t.set h.nx (.cells [.str t.op,.str t.name,.str t.arg,.int .i64 t.n,.int .i64 t.at_,.sl .no (avs t.kids)])).set (h.nx+1) (.cells [.sl oe (strs en)])).set (h.nx+1+1) (.cells [.int .i64 0,.sl .full [],.sl .full []]),h.nx+1+1+1⟩ (by simp[T.aA])
    simp[EVT,aT,TYC,hty,k19,hil,hl4,k21,k20',z3]at hy
    refine⟨_,hy.symm,by simp only;omega,fun j hj => ?_⟩
    simp only[T.aA]
    repeat rw[if_neg (by omega)]
 cases hb:(!Tr.isR t||(ltI 4 ↑en.length||dT (Tr.dM t) en))with
 | true=>
  have eF:ofF (Tr.isR t) (Tr.dM t) t en=(0,[],[],1):=by unfold ofF;rw[hb];rfl
  rw[eF]
  exact errs 1 (first true hb)
 | false=>
  have eF:ofF (Tr.isR t) (Tr.dM t) t en=bif ltI 200 ↑(cZ (gen t.dep) t en [] 0).2.length||longL (cZ (gen t.dep) t en [] 0).2 then(0,[],[],7)else(↑en.length,(cZ (gen t.dep) t en [] 0).2,(cZ (gen t.dep) t en [] 0).1,0):=by unfold ofF;rw[hb];rfl
  rw[eF]
  simp only[Bool.or_eq_false_iff,Bool.not_eq_false']at hb
  obtain⟨his,hl4,hst⟩:=hb
  obtain⟨hs,he⟩:=is_size his
  have har:=each_ar t he
  have hdp:=dep_size t
  have hfl:(Tr.dM t).length≤1000000:=by have:=Tr.freeT_len t;omega
  have k21:∀ h,evL E 21 [t.av] h=some (.sl .no (strs (Tr.dM t)),h):=fun h=>fG (a:=t) (F:=Tr.dM) e.free (Enc.bare 0 t) ⟨hf,by omega⟩ h
  obtain⟨h0,hh0⟩:∃ h0:H,h0=⟨((h.t.set h.nx (.cells [.str t.op,.str t.name,.str t.arg,.int .i64 t.n,.int .i64 t.at_,.sl .no (avs t.kids)])).set (h.nx+1) (.cells [.sl oe (strs en)])).set (h.nx+1+1) (.cells [.int .i64 0,.sl .full [],.sl .full []]),h.nx+1+1+1⟩:=⟨_,rfl⟩
  have k20:=any20_run e (b:=h.nx+1) (o := .no) (oe:=oe) (L:=Tr.dM t) (en:=en) (h:=h0) (by omega) hfl (by rw[hh0];simp[T.aA])
  rw[hst]at k20
  obtain⟨h1,hh1⟩:∃ h1:H,h1=⟨h0.t.set (h.nx+1+1+1) (.cells [.int .i64 ↑en.length,.sl .full [],.sl .full []]),h.nx+1+1+1+1⟩:=⟨_,rfl⟩
  have M:MS h1 (h.nx+1+1+1) ↑en.length (.sl .full []) [] .full []:=⟨by rw[hh1];exact T.bO _ _ _,by rw[hh1];exact Nat.lt_succ_self _,.inl ⟨rfl,rfl⟩,.inl ⟨rfl,rfl⟩⟩
  obtain⟨h2,fv2,N2,w2,k22,M2,R2,st⟩:=fun_run e.a (nr_all e.a t.dep) t en oe (Nat.le_refl _) har M (by simp;omega) (by simp;omega) (by omega) (by omega)
  simp only[List.nil_append,List.length_nil]at M2 R2 k22
  have hlen:=cW t.dep t en [] 1 0 har
  have hg2:0<(cZ (gen t.dep) t en [] 0).2.length∧(cZ (gen t.dep) t en [] 0).2.length≤3000:=by have:=hlen.2.1;simp only[cZ,List.length_cons,Nat.zero_add];omega
  generalize hG:cZ (gen t.dep) t en [] 0=g at *
  have hln:=R2.1
  have hcs:∀ (i:Nat) x c,N2[i]?=some x→g.2[i]?=some c→fI h2 x c:=fun i x c hx hc=>(R2.2 i x c hx hc).1
  have k24:=any24_run e (h:=h2) (by omega) M2.fr hln hcs
  have nx1:h1.nx=h.nx+1+1+1+1:=by rw[hh1]
  have nT:∀ j,j<h.nx+1+1+1→¬ Tm0 (h.nx+1+1+1) (.sl .full []) .full j:=by
   rintro j hj (h1|h1|h1|h1|h1)
   ·omega
   ·omega
   ·simp[cB]at h1
   ·cases h1
   ·simp[cB]at h1
  have keep:∀ j,j<h.nx+1+1+1→h2.t.get j=h1.t.get j:=fun j hj=>st.keep j (by omega) (nT j hj)
  have b0:h2.t.get (h.nx)=some (.cells [.str t.op,.str t.name,.str t.arg,.int .i64 t.n,.int .i64 t.at_,.sl .no (avs t.kids)]):=by rw[keep _ (by omega),hh1,hh0];simp[T.aA,z3,z7]
  have b1:h2.t.get (h.nx+1)=some (.cells [.sl oe (strs en)]):=by rw[keep _ (by omega),hh1,hh0];simp[T.aA]
  have b2:h2.t.get (h.nx+1+1)=some (.cells [.int .i64 0,.sl .full [],.sl .full []]):=by rw[keep _ (by omega),hh1,hh0];simp[T.aA]
  have old:∀ j,j<h.nx→h2.t.get j=h.t.get j:=fun j hj=>by
   rw[keep j (by omega),hh1,hh0]
   simp only[T.aA]
   repeat rw[if_neg (by omega)]
  have n2:h.nx+1+1+1+1≤h2.nx:=by have:=st.nx;omega
  have gm2:=M2.gm
  obtain⟨fid,efv,gfv,fx⟩:∃ id,fv2 = .rs id N2.length true∧h2.t.get id=some (.row N2.length 54 1 N2)∧id<h2.nx:=by
   rcases M2.fr with ⟨e1,e2⟩|h
   ·rw[e2]at hln;simp at hln;omega
   ·exact h
  subst efv
  have hone:=M2.fr.one
  obtain⟨y,hy⟩:∃ y,evL E 8 [t.av,.sl oe (strs en)] h=y:=⟨_,rfl⟩
  rw[hy]
  rw[bE E (e.no 8 (by simp)) (by rw[e.fn];kernel_rfl) body8 _ _ rfl]at hy
  simp only[aC,sub,Tryz.f8]at hy
  rw[bZ t]at k19 k21 k22 hy
  rw[his]at k19
  rw[hh0]at k20
  rw[hh1,hh0]at k22
  have m1:h.nx+1+1+1≠h.nx+1+1:=by omega
  have m2:h.nx+1+1+1≠h.nx+1:=by omega
  have m3:h.nx+1+1+1≠h.nx:=by omega
  rw[hln]at k24 gm2
  cases hb1:ltI 200 ↑g.2.length with
  | true=>
   simp[EVT,aT,TYC,hty,k19,hil,hl4,k21,k20,k22,b2,gm2,hb1,z3,z7]at hy
   refine⟨_,_,hy.symm,by simp only;omega,fun j hj => ?_,.zero _⟩
   rw[show(⟨h2.t.set (h.nx+1+1) (Ev.Obj.cells [AV.int IntKind.i64 0,AV.sl .full [],AV.sl .full []]),h2.nx⟩:H).t.get j=h2.t.get j from T.aD _ _ (by omega)]
   exact old j hj
  | false=>
   cases hb2:longL g.2 with
   | true=>
    rw[hb2]at k24
    simp[EVT,aT,TYC,hty,k19,hil,hl4,k21,k20,k22,b2,gm2,hb1,k24,z3,z7]at hy
    refine⟨_,_,hy.symm,by simp only;omega,fun j hj => ?_,.zero _⟩
    rw[show(⟨h2.t.set (h.nx+1+1) (Ev.Obj.cells [AV.int IntKind.i64 0,AV.sl .full [],AV.sl .full []]),h2.nx⟩:H).t.get j=h2.t.get j from T.aD _ _ (by omega)]
    exact old j hj
   | false=>
    rw[hb2]at k24
    simp[EVT,aT,TYC,hty,k19,hil,hl4,k21,k20,k22,b2,gm2,hb1,k24,z3,z7]at hy
    have put:∀ j,j≠h.nx+1+1→(⟨h2.t.set (h.nx+1+1) (Ev.Obj.cells [AV.int IntKind.i64 ↑en.length,AV.rs fid g.2.length true,AV.sl w2 (strs g.1)]),h2.nx⟩:H).t.get j=h2.t.get j:=fun j hj=>T.aD _ _ hj
    have nf:fid≠h.nx+1+1:=by rintro rfl;rw[b2]at gfv;cases gfv
    refine⟨_,_,hy.symm,by simp only;omega,fun j hj=>(put j (by omega)).trans (old j hj),AV.rs fid g.2.length true,w2,N2,rfl,.inr ⟨fid,by rw[hln],(put fid nf).trans gfv,fx⟩,hln,fun i x c hx hc=>(hcs i x c hx hc).mono (Nat.le_refl _) fun j hj hlt=>put j ?_⟩
    rintro rfl
    exact(hcs i x c hx hc).nc b2 hj
def zeroC:List AV:=[.int .i64 0,.sl .full [],.sl .full []]
noncomputable def b9_0:Code:=aK Tryz.f9 0
noncomputable def b9_1:Code:=aK Tryz.f9 1
theorem body9:Tryz.f9.body=some (.seq (aC Tryz.f9 [0]) (.seq (aC Tryz.f9 [1,0]) (.seq (aC Tryz.f9 [1,1,0]) (.seq (.seq (aC Tryz.f9 [1,1,1,0,0]) (.block 0 (.loop b9_0))) (.seq (aC Tryz.f9 [1,1,1,1,0]) (.seq (aC Tryz.f9 [1,1,1,1,1,0]) (.seq (aC Tryz.f9 [1,1,1,1,1,1,0]) (.seq (.seq (aC Tryz.f9 [1,1,1,1,1,1,1,0,0]) (.block 2 (.loop b9_1))) (aC Tryz.f9 [1,1,1,1,1,1,1,1]))))))))):=rfl
theorem loop9_0 {E:Env} (e:EOf E) {o oe:Go.Ev.Own} {L en:List Str} {rc:Nat} {bx:AV} (hen:en.length≤1000000) (hl:L.length≤1000000) {h:H} (hrc:h.t.get rc=some (.cells zeroC)):∀ (l:List Str) (i:Nat) {tm:Tm} {x:Option (Ex × Tm × H)},cdL E 9 82 (.loop b9_0) tm h=x→l=L.drop i→i≤L.length →
  tm.get 1=some (.sl oe (strs en))→tm.get 2=some bx→tm.get 4=some (.ptr (some (rc,0)))→tm.get 6=some (.sl o (strs L))→tm.get 7=some (.int .i64 ↑i) →
  ∃ tm' h',x=some (bif dT l en then .ret else .exit 0,tm',h')∧(dT l en=false→h'=h)∧(dT l en=true→h'=⟨h.t.set rc (.cells zeroC),h.nx⟩∧tm'.get 5=some (.int .i64 1))∧tm'.get 1=some (.sl oe (strs en))∧tm'.get 2=some bx∧tm'.get 4=some (.ptr (some (rc,0)))
 | [],i,tm,x,hx,hd,hi,h1,h2,h4,h6,h7=>by
  have hlen:=dnil hd hi
  have hty:=e.ty
  have hpl:=e.pl
  have hil:=cA L
  obtain⟨R,hR,hx⟩:=aS hx
  simp[b9_0,aK,Tryz.f9,loops,EVT,TYC,lp,hty,h6,h7,hlen,hil,dZ]at hx
  exact⟨_,_,by rw[←hx];rfl,fun _=>rfl,by simp[dT],by simp[T.aA,h1],by simp[T.aA,h2],by simp[T.aA,h4]⟩
 | c::l,i,tm,x,hx,hd,hi,h1,h2,h4,h6,h7=>by
  obtain⟨hlt,hc,hd'⟩:=gC hd
  have hty:=e.ty
  have hpl:=e.pl
  have hil:=cA L
  have hat:=strs_get hc
  have k:=fun h=>Tr.cHas e.hasR oe en c.s (by omega) h
  simp only[zeroC]at hrc
  obtain⟨R,hR,hx⟩:=aS hx
  have hlt':=eR hlt
  have hw:=cH (i:=i) (by omega)
  cases hs:dA en c.s with
  | false=>
   rw[hs]at k
   simp[b9_0,aK,Tryz.f9,loops,EVT,TYC,lp,hty,h1,h4,h6,h7,hlt',hil,hat,k,hrc]at hx
   have e1:dT (c::l) en=true:=by simp[dT,hs]
   rw[e1]
   exact⟨_,_,by rw[←hx];rfl,by simp,fun _=>⟨rfl,by simp[T.aA]⟩,by simp[T.aA,h1],by simp[T.aA,h2],by simp[T.aA,h4]⟩
  | true=>
   rw[hs]at k
   simp[b9_0,aK,Tryz.f9,loops,EVT,TYC,lp,hty,h1,h4,h6,h7,hlt',hil,hat,k,hw]at hx
   rw[hR]at hx
   have e1:dT (c::l) en=dT l en:=by simp[dT,hs]
   rw[e1]
   exact loop9_0 e (o:=o) hen hl hrc l (i+1) hx hd' hlt (by simp[T.aA,h1]) (by simp[T.aA,h2]) (by simp[T.aA,h4]) (by simp[T.aA,h6]) (by simp[T.aA])
theorem loop9_1 {E:Env} (e:EOf E) {m id:Nat} {v1 v4:AV} {w:Go.Ev.Own} {S:List Str} {F:List AV} {C:List (List Ins)} (hl:F.length≤1000000) {h:H} (hm:h.t.get m=some (.cells [.rs id F.length true,.sl w (strs S)])) (hg:h.t.get id=some (.row F.length 54 1 F)) (hln:F.length=C.length) (hcs:∀ (i:Nat) x c,F[i]?=some x→C[i]?=some c→fI h x c):∀ (l:List (List Ins)) (i:Nat) (b:Bool) {tm:Tm} {x:Option (Ex × Tm × H)},cdL E 9 82 (.loop b9_1) tm h=x→l=C.drop i→i≤C.length →
  tm.get 1=some v1→tm.get 4=some v4→tm.get 8=some (.ptr (some (m,0)))→tm.get 9=some (.bool b)→tm.get 10=some (.int .i64 ↑i) →
  ∃ tm',x=some (.exit 2,tm',h)∧tm'.get 9=some (.bool (b||longL l))∧tm'.get 1=some v1∧tm'.get 4=some v4∧tm'.get 8=some (.ptr (some (m,0)))
 | [],i,b,tm,x,hx,hd,hi,h1,h4,h8,h9,h10=>by
  have hlen:=dnil hd hi
  have hty:=e.ty
  have hpl:=e.pl
  rw[hln]at hm
  obtain⟨R,hR,hx⟩:=aS hx
  simp[b9_1,aK,Tryz.f9,loops,EVT,TYC,lp,hty,h8,h10,hm,hlen,dZ]at hx
  exact⟨_,by rw[←hx],by simp[T.aA,h9,longL],by simp[T.aA,h1],by simp[T.aA,h4],by simp[T.aA,h8]⟩
 | c::l,i,b,tm,x,hx,hd,hi,h1,h4,h8,h9,h10=>by
  obtain⟨hlt,hc,hd'⟩:=gC hd
  have hty:=e.ty
  have hpl:=e.pl
  have hfl:i<F.length:=by omega
  have hfi:F[i]?=some F[i]:=List.getElem?_eq_getElem hfl
  have hcr:=hcs i F[i] c hfi hc
  obtain⟨v,hve⟩:∃ v,F[i]=v:=⟨_,rfl⟩
  rw[hve]at hfi hcr
  have hcell:=hcr.cell
  have hone:=hcr.one
  obtain⟨R,hR,hx⟩:=aS hx
  have hlt':=eR hfl
  have hw:=cH (i:=i) (by omega)
  have hbl:Nat.blt i F.length=true:=cR.2 hfl
  have hle:i+1≤F.length:=hfl
  have go:x=R (((tm.set 9 (.bool (b||ltI 4000 ↑c.length))).set 10 (.int .i64 ↑(i+1)))) h∨∃ tm2,x=R tm2 h∧tm2.get 1=some v1∧tm2.get 4=some v4∧tm2.get 8=some (.ptr (some (m,0)))∧tm2.get 9=some (.bool (b||ltI 4000 ↑c.length))∧tm2.get 10=some (.int .i64 ↑(i+1)):=by
   cases b with
   | true=>
    simp[b9_1,aK,Tryz.f9,loops,EVT,TYC,lp,hty,h8,h9,h10,hm,hlt',hw]at hx
    exact .inr ⟨_,hx.symm,by simp[T.aA,h1],by simp[T.aA,h4],by simp[T.aA,h8],by simp[T.aA],by simp[T.aA]⟩
   | false=>
    rcases hcr with ⟨rfl,rfl⟩|⟨id',rfl,hg',hi'⟩
    ·simp[b9_1,aK,Tryz.f9,loops,EVT,TYC,lp,hty,h8,h9,h10,hm,hlt',hg,hve,hfl,hle,hw]at hx
     exact .inr ⟨_,hx.symm,by simp[T.aA,h1],by simp[T.aA,h4],by simp[T.aA,h8],by simp[T.aA],by simp[T.aA]⟩
    ·simp[b9_1,aK,Tryz.f9,loops,EVT,TYC,lp,hty,h8,h9,h10,hm,hlt',hg,hve,hfl,hle,hw]at hx
     exact .inr ⟨_,hx.symm,by simp[T.aA,h1],by simp[T.aA,h4],by simp[T.aA,h8],by simp[T.aA],by simp[T.aA]⟩
  have e1:(b||longL (c::l))=((b||ltI 4000 ↑c.length)||longL l):=by simp[longL,Bool.or_assoc]
  rw[e1]
  rcases go with hx|⟨tm2,hx,g1,g4,g8,g9,g10⟩
  ·rw[hR]at hx
   exact loop9_1 e hl hm hg hln hcs l (i+1) _ hx.symm hd' hlt (by simp[T.aA,h1]) (by simp[T.aA,h4]) (by simp[T.aA,h8]) (by simp[T.aA]) (by simp[T.aA])
  ·rw[hR]at hx
   exact loop9_1 e hl hm hg hln hcs l (i+1) _ hx.symm hd' hlt g1 g4 g8 g9 g10
theorem of14_run {E:Env} (e:EOf E) (t:Nd) (hf:fit t) (en:List Str) (oe:Go.Ev.Own) (hen:en.length≤100000) (hV:Tr.isR t=true→dT (Tr.freeRF t) en=false→Vd t.dep t en) (hfr:Tr.isR t=true→(Tr.freeRF t).length≤1000000∧Tr.qRF t) (h:H) :
  ∃ h' v,evL E 9 [t.av,.sl oe (strs en)] h=some (.tup [v,.int .i64 (ofF (Tr.isR t) (Tr.freeRF t) t en).2.2.2],h')∧h.nx≤h'.nx∧(∀ j,j<h.nx→h'.t.get j=h.t.get j) ∧
   PR h' v (ofF (Tr.isR t) (Tr.freeRF t) t en).1 (ofF (Tr.isR t) (Tr.freeRF t) t en).2.1 (ofF (Tr.isR t) (Tr.freeRF t) t en).2.2.1:=by
 have hty:=e.ty
 have hpl:=e.pl
 have hil:=cA en
 have k14:∀ h,evL E 14 [t.av] h=some (.bool (Tr.isR t),h):=fun h=>fG (a:=t) (F:=Tr.isR) e.isR (Enc.bare 0 t) hf h
 have z1:h.nx+1≠h.nx:=by omega
 have z2:h.nx≠h.nx+1:=by omega
 have z3:h.nx≠h.nx+1+1:=by omega
 have z4:h.nx+1≠h.nx+1+1:=by omega
 have z5:h.nx+1+1≠h.nx:=by omega
 have z6:h.nx+1+1≠h.nx+1:=by omega
 obtain⟨h0,hh0⟩:∃ h0:H,h0=⟨(h.t.set h.nx (.cells [.str t.op,.str t.name,.str t.arg,.int .i64 t.n,.int .i64 t.at_,.sl .no (avs t.kids)])).set (h.nx+1) (.cells zeroC),h.nx+1+1⟩:=⟨_,rfl⟩
 have old0:∀ j,j<h.nx→h0.t.get j=h.t.get j:=fun j hj=>by
  rw[hh0]
  simp only[T.aA]
  repeat rw[if_neg (by omega)]
 have rc0:h0.t.get (h.nx+1)=some (.cells zeroC):=by rw[hh0];exact T.bO _ _ _
 have nb0:h0.t.get h.nx=some (.cells [.str t.op,.str t.name,.str t.arg,.int .i64 t.n,.int .i64 t.at_,.sl .no (avs t.kids)]):=by rw[hh0];simp[T.aA]
 obtain⟨y,hy⟩:∃ y,evL E 9 [t.av,.sl oe (strs en)] h=y:=⟨_,rfl⟩
 rw[hy]
 rw[bE E (e.no 9 (by simp)) (by rw[e.fn];kernel_rfl) body9 _ _ rfl]at hy
 simp only[aC,sub,Tryz.f9]at hy
 rw[bZ t]at k14 hy
 simp only[zeroC]at rc0 hh0
 cases hb0:(!Tr.isR t||ltI 4 ↑en.length)with
 | true=>
  have eF:ofF (Tr.isR t) (Tr.freeRF t) t en=(0,[],[],1):=by unfold ofF;rw[←Bool.or_assoc,hb0];rfl
  rw[eF]
  refine⟨⟨h0.t.set (h.nx+1) (.cells zeroC),h.nx+1+1⟩,_,?_,by simp only;omega,fun j hj => ?_,.zero _⟩
  ·cases his:Tr.isR t with
   | false=>
    rw[his]at k14
    simp[EVT,aT,TYC,hty,k14]at hy
    rw[←hy,hh0];rfl
   | true=>
    rw[his]at k14 hb0
    simp at hb0
    simp[EVT,aT,TYC,hty,k14,hil,hb0]at hy
    rw[←hy,hh0];rfl
  ·rw[show(⟨h0.t.set (h.nx+1) (Ev.Obj.cells zeroC),h.nx+1+1⟩:H).t.get j=h0.t.get j from T.aD _ _ (by omega)]
   exact old0 j hj
 | false=>
  simp only[Bool.or_eq_false_iff,Bool.not_eq_false']at hb0
  obtain⟨his,hl4⟩:=hb0
  obtain⟨hs,he⟩:=is_size his
  have har:=each_ar t he
  have hdp:=dep_size t
  obtain⟨hfl,hq⟩:=hfr his
  have k15:∀ h,evL E 15 [t.av] h=some (.sl .no (strs (Tr.freeRF t)),h):=fun h=>fG (a:=t) (F:=Tr.freeRF) e.freeR (Enc.bare 0 t) hq h
  rw[bZ t]at k15
  rw[his]at k14
  simp[EVT,aT,TYC,hty,hpl,k14,hil,hl4,k15]at hy
  generalize hx:cdL E 9 82 (.loop b9_0) _ _=x at hy
  rw[←hh0]at hx
  obtain⟨tm',h',ex,f1,f2,g1,g2,g4⟩:=loop9_0 e (o := .no) (oe:=oe) (en:=en) (L:=Tr.freeRF t) (rc:=h.nx+1) (bx := .ptr (some (h.nx,0))) (by omega) hfl rc0 (Tr.freeRF t) 0 hx rfl (Nat.zero_le _) (by simp[T.aA]) (by simp[T.aA]) (by simp[T.aA]) (by simp[T.aA]) (by simp[T.aA])
  subst ex
  cases hst:dT (Tr.freeRF t) en with
  | true=>
   obtain⟨eh,g5⟩:=f2 hst
   have eF:ofF (Tr.isR t) (Tr.freeRF t) t en=(0,[],[],1):=by unfold ofF;rw[hst];simp
   rw[eF]
   have nx0:h0.nx=h.nx+1+1:=by rw[hh0]
   refine⟨⟨h0.t.set (h.nx+1) (.cells zeroC),h0.nx⟩,_,?_,by simp only;omega,fun j hj => ?_,.zero _⟩
   ·simp only[zeroC]at eh
    rw[hst,eh]at hy
    simp[EVT,g4,g5]at hy
    rw[←hy];rfl
   ·rw[show(⟨h0.t.set (h.nx+1) (Ev.Obj.cells zeroC),h0.nx⟩:H).t.get j=h0.t.get j from T.aD _ _ (by omega)]
    exact old0 j hj
  | false=>
   have eh:=f1 hst
   subst eh
   have eF:ofF (Tr.isR t) (Tr.freeRF t) t en=bif ltI 200 ↑(cZ (gen t.dep) t en [] 0).2.length||longL (cZ (gen t.dep) t en [] 0).2 then(0,[],[],7)else(↑en.length,(cZ (gen t.dep) t en [] 0).2,(cZ (gen t.dep) t en [] 0).1,0):=by unfold ofF;rw[hst,his,hl4];rfl
   rw[eF]
   rw[hst]at hy
   have nx0:h'.nx=h.nx+1+1:=by rw[hh0]
   obtain⟨h1,hh1⟩:∃ h1:H,h1=⟨h'.t.set h'.nx (.cells [.sl .full [],.sl .full []]),h'.nx+1⟩:=⟨_,rfl⟩
   have M:MR h1 h'.nx (.sl .full []) [] .full [] []:=⟨by rw[hh1];exact T.bO _ _ _,by rw[hh1];exact Nat.lt_succ_self _,.inl ⟨rfl,rfl⟩,.inl ⟨rfl,rfl⟩,rfl,fun i x c hx=>by simp at hx,fun i j x y id hx=>by simp at hx⟩
   obtain⟨h2,k26,fv2,F2,w2,M2,T2⟩:=fun14_run e.b (nr14_all e.b t.dep) t en oe (Nat.le_refl _) har (hV his hst) M (by simp;omega) (by simp;omega) (by omega) (by omega)
   simp only[List.nil_append,List.length_nil]at M2 k26
   have hlen:=cW t.dep t en [] 1 0 har
   have hg2:0<(cZ (gen t.dep) t en [] 0).2.length∧(cZ (gen t.dep) t en [] 0).2.length≤3000:=by have:=hlen.2.1;simp only[cZ,List.length_cons,Nat.zero_add];omega
   generalize hG:cZ (gen t.dep) t en [] 0=g at *
   have hln:=M2.ln
   have nT:∀ j,j<h'.nx→¬ TR h'.nx (.sl .full []) [] .full j:=by
    rintro j hj (h1|h1|h1|⟨x,hx,_⟩)
    ·omega
    ·simp[cB]at h1
    ·cases h1
    ·simp at hx
   have g01:∀ j,j<h'.nx→h1.t.get j=h'.t.get j:=fun j hj=>by rw[hh1];exact T.aD _ _ (by omega)
   have nx1:h1.nx=h'.nx+1:=by rw[hh1]
   have keep:∀ j,j<h'.nx→h2.t.get j=h'.t.get j:=fun j hj=>by rw[T2.keep j (by omega) (nT j hj),g01 j hj]
   have nb2:=(keep h.nx (by omega)).trans nb0
   have rc2:=(keep (h.nx+1) (by omega)).trans rc0
   have old:∀ j,j<h.nx→h2.t.get j=h.t.get j:=fun j hj=>(keep j (by omega)).trans (old0 j hj)
   have n2:h'.nx+1≤h2.nx:=by have:=T2.nx;omega
   obtain⟨fid,efv,gfv,fx⟩:∃ id,fv2 = .rs id F2.length true∧h2.t.get id=some (.row F2.length 54 1 F2)∧id<h2.nx:=by
    rcases M2.fr with ⟨e1,e2⟩|h
    ·rw[e2]at hln;simp at hln;omega
    ·exact h
   subst efv
   have gm2:=M2.gm
   rw[hh1]at k26
   have nb0':=nb0
   have m1:h.nx≠h'.nx:=by omega
   rw[bZ t]at k26
   simp[EVT,TYC,g1,g2,nb0',m1,k26,gm2]at hy
   generalize hx2:cdL E 9 82 (.loop b9_1) _ _=x2 at hy
   obtain⟨tm2,ex2,t9,t1,t4,t8⟩:=loop9_1 e (m:=h'.nx) (id:=fid) (w:=w2) (S:=g.1) (F:=F2) (C:=g.2) (v1 := .sl oe (strs en)) (v4 := .ptr (some (h.nx+1,0))) (by omega) gm2 gfv hln (fun i x c hx hc=>M2.cs i x c hx hc) g.2 0 (ltI 200 ↑F2.length) hx2 rfl (Nat.zero_le _) (by simp[T.aA,g1]) (by simp[T.aA,g4]) (by simp[T.aA]) (by simp[T.aA]) (by simp[T.aA])
   subst ex2
   rw[hln]at t9
   have rn:h.nx+1≠h'.nx:=by omega
   cases hb:(ltI 200 ↑g.2.length||longL g.2)with
   | true=>
    rw[hb]at t9
    simp[EVT,t9,t4,rc2]at hy
    refine⟨_,_,hy.symm,by simp only;omega,fun j hj => ?_,.zero _⟩
    rw[show(⟨h2.t.set (h.nx+1) (Ev.Obj.cells [AV.int IntKind.i64 0,AV.sl .full [],AV.sl .full []]),h2.nx⟩:H).t.get j=h2.t.get j from T.aD _ _ (by omega)]
    exact old j hj
   | false=>
    rw[hb]at t9
    simp[EVT,TYC,t9,t1,t4,t8,rc2,hil,gm2]at hy
    have put:∀ j,j≠h.nx+1→(⟨h2.t.set (h.nx+1) (Ev.Obj.cells [AV.int IntKind.i64 ↑en.length,AV.rs fid F2.length true,AV.sl w2 (strs g.1)]),h2.nx⟩:H).t.get j=h2.t.get j:=fun j hj=>T.aD _ _ hj
    have nf:fid≠h.nx+1:=by rintro rfl;rw[rc2]at gfv;cases gfv
    refine⟨_,_,hy.symm,by simp only;omega,fun j hj=>(put j (by omega)).trans (old j hj),AV.rs fid F2.length true,w2,F2,rfl,.inr ⟨fid,rfl,(put fid nf).trans gfv,fx⟩,hln,fun i x c hx hc=>(M2.cs i x c hx hc).mono (Nat.le_refl _) fun j hj hlt=>put j ?_⟩
    rintro rfl
    exact(M2.cs i x c hx hc).nc rc2 hj
end Go.Proofs.YtogjplcnmibnlaaGreatDoor.Env
