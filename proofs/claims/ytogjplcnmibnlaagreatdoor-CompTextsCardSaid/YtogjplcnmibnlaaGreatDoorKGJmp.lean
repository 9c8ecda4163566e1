/- The reference's verifier: step, a kind of instruction at a time. Written by a program. -/
import Derived.Test.YtogjplcnmibnlaaGreatDoorKGPlain
set_option autoImplicit false
set_option maxRecDepth 100000
set_option maxHeartbeats 8000000
set_option linter.unusedSimpArgs false
set_option linter.unusedVariables false
namespace Go.Proofs.YtogjplcnmibnlaaGreatDoor.Ck
open Go.Ev Go.Proofs.YtogjplcnmibnlaaGreatDoor.Env
open Go.Proofs.YtogjplcnmibnlaaGreatDoor.Pa (Gr cC bR)
section
variable {E:Go.Ev.Env} {K:Pg} {c fid:Nat} {sid:Nat→Nat} {ws:Go.Ev.Own} {h:H} {col:Nat→Nat} {q:Cq}
theorem step_bind (e:KOk E) (k:CK K c fid sid ws h col q) {i:Nat} {x:Sx} {co:List Ins} {v:AV} (hco:K.C[q.f]?=some co) (hcl:co.length=(K.τ q.f).length) (hx:(K.τ q.f)[i]?=some x) (hvi:(q.V q.f)[i]?=some (some v)) (hbx:x.h≤100000∧x.d≤100000∧x.tr.length≤100000) (hbt:2*uv (q.V q.f)+q.ts.length<1000000) (hus:q.us.length<1000000) (hmu:q.f∈q.us) (hlen:(K.τ q.f).length≤100000) {N:Int} (hin:co[i]?=some ⟨6,N⟩) (hf:cM x.tr+1≤x.h) (hn:(K.τ q.f)[i+1]?=some ⟨x.h-1,x.d+1,x.tr⟩):StepR K c fid sid ws h col q (evL E 59 [.ptr (some (c,0)),.int .i64 ↑i] h):=by
 have hty:=e.ty
 have hpl:=e.pl
 have hg:=k.g
 have hff:=k.ff
 have hi:i<(K.τ q.f).length:=aI hx
 have hpa:(K.C.map cN)[q.f]?=some (cN co):=by simp[hco]
 have hcg:∀ hh:q.f<K.C.length,K.C[q.f]'hh=co:=fun hh=>by rw[List.getElem?_eq_getElem hh]at hco;exact Option.some.inj hco
 have hia:(co.map fR)[i]?=some (fR ⟨6,N⟩):=by simp[hin]
 have hrow:=k.rows q.f hff
 have hra:=fW K sid hff
 have hcb:=k.cc.2
 have hsb:=(k.cs q.f hff).2
 have nc0:c≠h.nx:=by omega
 have nc1:c≠h.nx+1:=by omega
 have nc2:c≠h.nx+1+1:=by omega
 have ns0:sid q.f≠h.nx:=by omega
 have ns1:sid q.f≠h.nx+1:=by omega
 have ns2:sid q.f≠h.nx+1+1:=by omega
 have n01:h.nx≠h.nx+1:=by omega
 have n02:h.nx≠h.nx+1+1:=by omega
 have n12:h.nx+1≠h.nx+1+1:=by omega
 have hlc:=eB (k.rl q.f hff)
 have hle:i*4+4≤(cellsOf (K.τ q.f) (q.V q.f)).length:=by rw[hlc];omega
 have hget:=eK hx hvi
 simp only[cellS]at hget
 have sv:=k.vals q.f i v x hff hvi hx
 have hfrm:=k.frm hmu
 have hfr:=k.fr
 have ncf:=k.ne_cf
 have nf0:fid≠h.nx:=by have:=k.cf.2;omega
 have nf1:fid≠h.nx+1:=by have:=k.cf.2;omega
 have nf2:fid≠h.nx+1+1:=by have:=k.cf.2;omega
 have hil:=cA K.S
 obtain⟨i1,hi1⟩:∃ j,j=i+1:=⟨_,rfl⟩
 have hwi:wr .i64 (↑i+1)=↑i1:=wrn (by rw[hi1];simp) (by omega)
 have kt:∀ h,evL E 95 [.int .i64 6] h=some (.tup [.int .i64 1,.int .i64 0],h):=fun h=>takes_run e 6 (by simp[dO]) h
 obtain⟨d1,hd1⟩:∃ d,d=x.d+1:=⟨_,rfl⟩
 have hwd:wr .i64 (↑x.d+1)=↑d1:=wrn (by rw[hd1];simp) (by omega)
 obtain⟨a,ha⟩:∃ a,a+1=x.h:=⟨x.h-1,by omega⟩
 obtain⟨b,hb⟩:∃ b,b=a+0:=⟨_,rfl⟩
 have hbz:a=b:=by omega
 subst hbz
 have hw1:wr .i64 (↑x.h-1)=↑a:=wrn (by rw[←ha];simp) (by omega)
 have hw2:wr .i64 ↑a=↑a:=wrn rfl (by omega)
 have hlt:ltI ↑a ↑(cM x.tr)=false:=dZ (by omega)
 obtain⟨hA,hhA⟩:∃ g:H,g=⟨((((((h.t.set h.nx (.cells [.bool false,.int .i64 0,.int .i64 0,.sl .full []])).set h.nx (.cells [.bool true,.int .i64 ↑x.h,.int .i64 ↑x.d,v])).set (h.nx+1) (.cells [.int .i64 0,.int .i64 0])).set (h.nx+1) (.cells [.int .i64 6,.int .i64 N])).set (h.nx+1+1) (.cells [.bool false,.int .i64 0,.int .i64 0,.sl .full []])).set (h.nx+1+1) (.cells [.bool false,.int .i64 ↑a,.int .i64 ↑x.d,v])),h.nx+1+1+1⟩:=⟨_,rfl⟩
 have GA:Gr h hA:=by
  rw[hhA]
  exact⟨by simp only;omega,fun j hj=>(T.aD _ _ (by omega)).trans ((T.aD _ _ (by omega)).trans ((T.aD _ _ (by omega)).trans ((T.aD _ _ (by omega)).trans ((T.aD _ _ (by omega)).trans (T.aD _ _ (by omega))))))⟩
 have nA:hA.nx=h.nx+1+1+1:=by rw[hhA]
 obtain⟨h2,kf,G2⟩:=floor_run e (sv.gr GA) true ↑x.h ↑x.d (by omega)
 have k2:=k.gr (GA.trans G2)
 have F2:Fx (Mut col) h col h2 col:=Fx.gr (GA.trans G2) _ _
 have n2:h.nx+1+1+1≤h2.nx:=by have:=G2.nx;omega
 have gx:h2.t.get h.nx=some (.cells [.bool true,.int .i64 ↑x.h,.int .i64 ↑x.d,v]):=(G2.keep _ (by omega)).trans (by rw[hhA];simp[T.aA,n02])
 have gi:h2.t.get (h.nx+1)=some (.cells [.int .i64 6,.int .i64 N]):=(G2.keep _ (by omega)).trans (by rw[hhA];simp[T.aA])
 have gy:h2.t.get (h.nx+1+1)=some (.cells [.bool false,.int .i64 ↑a,.int .i64 ↑x.d,v]):=(G2.keep _ (by omega)).trans (by rw[hhA];simp[T.aA])
 have sv2:=sv.gr (GA.trans G2)
 have c0:col h.nx=0:=k.fz _ (Nat.le_refl _)
 have c1:col (h.nx+1)=0:=k.fz _ (by omega)
 have c2:col (h.nx+1+1)=0:=k.fz _ (by omega)
 have vsh:=sv.shape
 have g2c:=k2.g
 have g2f:=k2.fr
 generalize hy:evL E 59 _ _=y
 rw[bE E (e.no 59 (by simp)) (by rw[e.fn];kernel_rfl) body59 _ _ rfl]at hy
 simp only[aC,sub,Tryz.f59]at hy
 obtain⟨h4,hh4⟩:∃ g:H,g=⟨h2.t.set (h.nx+1+1) (.cells [.bool false,.int .i64 ↑a,.int .i64 ↑d1,v]),h2.nx⟩:=⟨_,rfl⟩
 have k4:CK K c fid sid ws h4 _ _:=hh4▸k2.loc c2 _
 have F4:Fx (Mut col) h col h4 _:=hh4▸F2.loc (by omega) _
 have n4:h4.nx=h2.nx:=by rw[hh4]
 have g4y:h4.t.get (h.nx+1+1)=some (.cells [.bool false,.int .i64 ↑a,.int .i64 ↑d1,v]):=by rw[hh4];exact T.bO _ _ _
 obtain⟨h3,col3,q3,k3,K3,F3,a3,b3,c3,d3,e3,f3⟩:=to_run e k4 (i:=i1) (x:=⟨a,d1,x.tr⟩) hco hcl (by rw[hi1,hn,hd1,←ha,Nat.add_sub_cancel]) (b0:=false) (v:=v) (sv2.fx (P:=fun j=>j=h.nx+1+1) (by rw[hh4];exact⟨Nat.le_refl _,fun j hj=>⟨rfl,fun hp=>T.aD _ _ hp⟩,fun hz=>hz⟩) (by rintro j hj rfl;omega)) (by first|omega|(simp;omega)) (by omega)
 subst hh4
 subst hhA
 clear sv2 sv
 rcases vsh with rfl|⟨id2,m3,rfl⟩|⟨id2,m3,m4,rfl⟩<;>(simp (maxSteps:=2000000) [EVT,aT,bC,aX,bA,bT,aL,aN,aQ,bX,bF,bW,dE,cD,aV,AV.cells,aG,aZ,val,aH,bN,bP,cP,bG,aU,aO,aM,bI,recheck,H.new,H.put,cT,aY,bB,AV.one,setArgs,bQ,bS,bJ,aR,aP,bK,TYC,TYK,MTK,hty,hpl,isub,hg,hpa,hia,fR,cN,hrow,hra,hi,hget,hle,hwi,hw1,hw2,hlt,kt,kf,gx,gi,gy,g2c,nc0,nc2,n02,bU,hwd,k3]at hy;exact⟨_,_,_,hy.symm,K3,F4.two F3,c3,by simp only[Wq,b3,d3],⟨[],by rw[b3];simp⟩,e3,f3⟩)
end
section
variable {E:Go.Ev.Env} {K:Pg} {c fid:Nat} {sid:Nat→Nat} {ws:Go.Ev.Own} {h:H} {col:Nat→Nat} {q:Cq}
theorem step_drop (e:KOk E) (k:CK K c fid sid ws h col q) {i:Nat} {x:Sx} {co:List Ins} {v:AV} (hco:K.C[q.f]?=some co) (hcl:co.length=(K.τ q.f).length) (hx:(K.τ q.f)[i]?=some x) (hvi:(q.V q.f)[i]?=some (some v)) (hbx:x.h≤100000∧x.d≤100000∧x.tr.length≤100000) (hbt:2*uv (q.V q.f)+q.ts.length<1000000) (hus:q.us.length<1000000) (hmu:q.f∈q.us) (hlen:(K.τ q.f).length≤100000) {N:Int} (hin:co[i]?=some ⟨7,N⟩) (hf:cM x.tr+0≤x.h) (hd:K.D q.f+1≤x.d) (hn:(K.τ q.f)[i+1]?=some ⟨x.h,x.d-1,x.tr⟩):StepR K c fid sid ws h col q (evL E 59 [.ptr (some (c,0)),.int .i64 ↑i] h):=by
 have hty:=e.ty
 have hpl:=e.pl
 have hg:=k.g
 have hff:=k.ff
 have hi:i<(K.τ q.f).length:=aI hx
 have hpa:(K.C.map cN)[q.f]?=some (cN co):=by simp[hco]
 have hcg:∀ hh:q.f<K.C.length,K.C[q.f]'hh=co:=fun hh=>by rw[List.getElem?_eq_getElem hh]at hco;exact Option.some.inj hco
 have hia:(co.map fR)[i]?=some (fR ⟨7,N⟩):=by simp[hin]
 have hrow:=k.rows q.f hff
 have hra:=fW K sid hff
 have hcb:=k.cc.2
 have hsb:=(k.cs q.f hff).2
 have nc0:c≠h.nx:=by omega
 have nc1:c≠h.nx+1:=by omega
 have nc2:c≠h.nx+1+1:=by omega
 have ns0:sid q.f≠h.nx:=by omega
 have ns1:sid q.f≠h.nx+1:=by omega
 have ns2:sid q.f≠h.nx+1+1:=by omega
 have n01:h.nx≠h.nx+1:=by omega
 have n02:h.nx≠h.nx+1+1:=by omega
 have n12:h.nx+1≠h.nx+1+1:=by omega
 have hlc:=eB (k.rl q.f hff)
 have hle:i*4+4≤(cellsOf (K.τ q.f) (q.V q.f)).length:=by rw[hlc];omega
 have hget:=eK hx hvi
 simp only[cellS]at hget
 have sv:=k.vals q.f i v x hff hvi hx
 have hfrm:=k.frm hmu
 have hfr:=k.fr
 have ncf:=k.ne_cf
 have nf0:fid≠h.nx:=by have:=k.cf.2;omega
 have nf1:fid≠h.nx+1:=by have:=k.cf.2;omega
 have nf2:fid≠h.nx+1+1:=by have:=k.cf.2;omega
 have hil:=cA K.S
 obtain⟨i1,hi1⟩:∃ j,j=i+1:=⟨_,rfl⟩
 have hwi:wr .i64 (↑i+1)=↑i1:=wrn (by rw[hi1];simp) (by omega)
 have kt:∀ h,evL E 95 [.int .i64 7] h=some (.tup [.int .i64 0,.int .i64 0],h):=fun h=>takes_run e 7 (by simp[dO]) h
 obtain⟨d1,hd1⟩:∃ d,x.d=d+1:=⟨x.d-1,by omega⟩
 have hwd:wr .i64 (↑x.d-1)=↑d1:=wrn (by rw[hd1];simp) (by omega)
 have hltd:ltI ↑d1 ↑(K.D q.f)=false:=dZ (by omega)
 obtain⟨a,ha⟩:∃ a,a+0=x.h:=⟨x.h-0,by omega⟩
 obtain⟨b,hb⟩:∃ b,b=a+0:=⟨_,rfl⟩
 have haz:a=x.h:=by omega
 subst haz
 have hbz:b=x.h:=by omega
 subst hbz
 have hw1:wr .i64 ↑x.h=↑x.h:=wrn rfl (by omega)
 have hw2:wr .i64 ↑x.h=↑x.h:=wrn rfl (by omega)
 have hlt:ltI ↑x.h ↑(cM x.tr)=false:=dZ (by omega)
 obtain⟨hA,hhA⟩:∃ g:H,g=⟨((((((h.t.set h.nx (.cells [.bool false,.int .i64 0,.int .i64 0,.sl .full []])).set h.nx (.cells [.bool true,.int .i64 ↑x.h,.int .i64 ↑x.d,v])).set (h.nx+1) (.cells [.int .i64 0,.int .i64 0])).set (h.nx+1) (.cells [.int .i64 7,.int .i64 N])).set (h.nx+1+1) (.cells [.bool false,.int .i64 0,.int .i64 0,.sl .full []])).set (h.nx+1+1) (.cells [.bool false,.int .i64 ↑x.h,.int .i64 ↑x.d,v])),h.nx+1+1+1⟩:=⟨_,rfl⟩
 have GA:Gr h hA:=by
  rw[hhA]
  exact⟨by simp only;omega,fun j hj=>(T.aD _ _ (by omega)).trans ((T.aD _ _ (by omega)).trans ((T.aD _ _ (by omega)).trans ((T.aD _ _ (by omega)).trans ((T.aD _ _ (by omega)).trans (T.aD _ _ (by omega))))))⟩
 have nA:hA.nx=h.nx+1+1+1:=by rw[hhA]
 obtain⟨h2,kf,G2⟩:=floor_run e (sv.gr GA) true ↑x.h ↑x.d (by omega)
 have k2:=k.gr (GA.trans G2)
 have F2:Fx (Mut col) h col h2 col:=Fx.gr (GA.trans G2) _ _
 have n2:h.nx+1+1+1≤h2.nx:=by have:=G2.nx;omega
 have gx:h2.t.get h.nx=some (.cells [.bool true,.int .i64 ↑x.h,.int .i64 ↑x.d,v]):=(G2.keep _ (by omega)).trans (by rw[hhA];simp[T.aA,n02])
 have gi:h2.t.get (h.nx+1)=some (.cells [.int .i64 7,.int .i64 N]):=(G2.keep _ (by omega)).trans (by rw[hhA];simp[T.aA])
 have gy:h2.t.get (h.nx+1+1)=some (.cells [.bool false,.int .i64 ↑x.h,.int .i64 ↑x.d,v]):=(G2.keep _ (by omega)).trans (by rw[hhA];simp[T.aA])
 have sv2:=sv.gr (GA.trans G2)
 have c0:col h.nx=0:=k.fz _ (Nat.le_refl _)
 have c1:col (h.nx+1)=0:=k.fz _ (by omega)
 have c2:col (h.nx+1+1)=0:=k.fz _ (by omega)
 have vsh:=sv.shape
 have g2c:=k2.g
 have g2f:=k2.fr
 generalize hy:evL E 59 _ _=y
 rw[bE E (e.no 59 (by simp)) (by rw[e.fn];kernel_rfl) body59 _ _ rfl]at hy
 simp only[aC,sub,Tryz.f59]at hy
 obtain⟨h4,hh4⟩:∃ g:H,g=⟨h2.t.set (h.nx+1+1) (.cells [.bool false,.int .i64 ↑x.h,.int .i64 ↑d1,v]),h2.nx⟩:=⟨_,rfl⟩
 have k4:CK K c fid sid ws h4 _ _:=hh4▸k2.loc c2 _
 have F4:Fx (Mut col) h col h4 _:=hh4▸F2.loc (by omega) _
 have n4:h4.nx=h2.nx:=by rw[hh4]
 have g4y:h4.t.get (h.nx+1+1)=some (.cells [.bool false,.int .i64 ↑x.h,.int .i64 ↑d1,v]):=by rw[hh4];exact T.bO _ _ _
 obtain⟨kB,FB⟩:=k4.again
 have F4b:=F4.two (FB.mut k4.mut_c)
 have g4c:=k4.g
 have g4f:=k4.fr
 have s4:SR h4 col 6 v x.tr:=(sv2.fx (P:=fun j=>j=h.nx+1+1) (by rw[hh4];exact⟨Nat.le_refl _,fun j hj=>⟨rfl,fun hp=>T.aD _ _ hp⟩,fun hz=>hz⟩) (by rintro j hj rfl;omega))
 obtain⟨h3,col3,q3,k3,K3,F3,a3,b3,c3,d3,e3,f3⟩:=to_run e kB (i:=i1) (x:=⟨x.h,d1,x.tr⟩) hco hcl (by rw[hi1,hn,hd1,Nat.add_sub_cancel]) (b0:=false) (v:=v) (s4.fx FB (by rintro j hj rfl;have:=k4.cc.1;omega)) (by first|omega|(simp;omega)) (by omega)
 subst hh4
 subst hhA
 clear sv2 sv s4
 rcases vsh with rfl|⟨id2,m3,rfl⟩|⟨id2,m3,m4,rfl⟩<;>(simp (maxSteps:=2000000) [EVT,aT,bC,aX,bA,bT,aL,aN,aQ,bX,bF,bW,dE,cD,aV,AV.cells,aG,aZ,val,aH,bN,bP,cP,bG,aU,aO,aM,bI,recheck,H.new,H.put,cT,aY,bB,AV.one,setArgs,bQ,bS,bJ,aR,aP,bK,TYC,TYK,MTK,hty,hpl,isub,hg,hia,fR,cN,hrow,hra,hi,hget,hle,hwi,hw1,hlt,kt,kf,gx,gi,gy,g2c,nc0,n02,Ne.symm nc2,bU,hff,hcg,hwd,hltd,hfrm,g4c,g4f,k3]at hy;exact⟨_,_,_,hy.symm,K3,F4b.two F3,c3,by simp only[Wq,b3,d3],⟨[],by rw[b3];simp⟩,e3,f3⟩)
end
section
variable {E:Go.Ev.Env} {K:Pg} {c fid:Nat} {sid:Nat→Nat} {ws:Go.Ev.Own} {h:H} {col:Nat→Nat} {q:Cq}
theorem step_ret (e:KOk E) (k:CK K c fid sid ws h col q) {i:Nat} {x:Sx} {co:List Ins} {v:AV} (hco:K.C[q.f]?=some co) (hcl:co.length=(K.τ q.f).length) (hx:(K.τ q.f)[i]?=some x) (hvi:(q.V q.f)[i]?=some (some v)) (hbx:x.h≤100000∧x.d≤100000∧x.tr.length≤100000) (hbt:2*uv (q.V q.f)+q.ts.length<1000000) (hus:q.us.length<1000000) (hmu:q.f∈q.us) (hlen:(K.τ q.f).length≤100000) {N:Int} (hin:co[i]?=some ⟨10,N⟩) (hf:cM x.tr+1≤x.h) (h1:x.h=1) (h2d:x.d=K.D q.f) (h3:x.tr=[]):StepR K c fid sid ws h col q (evL E 59 [.ptr (some (c,0)),.int .i64 ↑i] h):=by
 have hty:=e.ty
 have hpl:=e.pl
 have hg:=k.g
 have hff:=k.ff
 have hi:i<(K.τ q.f).length:=aI hx
 have hpa:(K.C.map cN)[q.f]?=some (cN co):=by simp[hco]
 have hcg:∀ hh:q.f<K.C.length,K.C[q.f]'hh=co:=fun hh=>by rw[List.getElem?_eq_getElem hh]at hco;exact Option.some.inj hco
 have hia:(co.map fR)[i]?=some (fR ⟨10,N⟩):=by simp[hin]
 have hrow:=k.rows q.f hff
 have hra:=fW K sid hff
 have hcb:=k.cc.2
 have hsb:=(k.cs q.f hff).2
 have nc0:c≠h.nx:=by omega
 have nc1:c≠h.nx+1:=by omega
 have nc2:c≠h.nx+1+1:=by omega
 have ns0:sid q.f≠h.nx:=by omega
 have ns1:sid q.f≠h.nx+1:=by omega
 have ns2:sid q.f≠h.nx+1+1:=by omega
 have n01:h.nx≠h.nx+1:=by omega
 have n02:h.nx≠h.nx+1+1:=by omega
 have n12:h.nx+1≠h.nx+1+1:=by omega
 have hlc:=eB (k.rl q.f hff)
 have hle:i*4+4≤(cellsOf (K.τ q.f) (q.V q.f)).length:=by rw[hlc];omega
 have hget:=eK hx hvi
 simp only[cellS]at hget
 have sv:=k.vals q.f i v x hff hvi hx
 have hfrm:=k.frm hmu
 have hfr:=k.fr
 have ncf:=k.ne_cf
 have nf0:fid≠h.nx:=by have:=k.cf.2;omega
 have nf1:fid≠h.nx+1:=by have:=k.cf.2;omega
 have nf2:fid≠h.nx+1+1:=by have:=k.cf.2;omega
 have hil:=cA K.S
 obtain⟨i1,hi1⟩:∃ j,j=i+1:=⟨_,rfl⟩
 have hwi:wr .i64 (↑i+1)=↑i1:=wrn (by rw[hi1];simp) (by omega)
 have kt:∀ h,evL E 95 [.int .i64 10] h=some (.tup [.int .i64 1,.int .i64 0],h):=fun h=>takes_run e 10 (by simp[dO]) h
 have z2:aE 10 2=false:=rfl
 have z3:aE 10 3=false:=rfl
 have z4:aE 10 4=false:=rfl
 have z5:aE 10 5=false:=rfl
 have z6:aE 10 6=false:=rfl
 have z7:aE 10 7=false:=rfl
 have z10:aE 10 10=true:=rfl
 obtain⟨a,ha⟩:∃ a,a+1=x.h:=⟨x.h-1,by omega⟩
 obtain⟨b,hb⟩:∃ b,b=a+0:=⟨_,rfl⟩
 have hbz:a=b:=by omega
 subst hbz
 have hw1:wr .i64 (↑x.h-1)=↑a:=wrn (by rw[←ha];simp) (by omega)
 have hw2:wr .i64 ↑a=↑a:=wrn rfl (by omega)
 have hlt:ltI ↑a ↑(cM x.tr)=false:=dZ (by omega)
 obtain⟨hA,hhA⟩:∃ g:H,g=⟨((((((h.t.set h.nx (.cells [.bool false,.int .i64 0,.int .i64 0,.sl .full []])).set h.nx (.cells [.bool true,.int .i64 ↑x.h,.int .i64 ↑x.d,v])).set (h.nx+1) (.cells [.int .i64 0,.int .i64 0])).set (h.nx+1) (.cells [.int .i64 10,.int .i64 N])).set (h.nx+1+1) (.cells [.bool false,.int .i64 0,.int .i64 0,.sl .full []])).set (h.nx+1+1) (.cells [.bool false,.int .i64 ↑a,.int .i64 ↑x.d,v])),h.nx+1+1+1⟩:=⟨_,rfl⟩
 have GA:Gr h hA:=by
  rw[hhA]
  exact⟨by simp only;omega,fun j hj=>(T.aD _ _ (by omega)).trans ((T.aD _ _ (by omega)).trans ((T.aD _ _ (by omega)).trans ((T.aD _ _ (by omega)).trans ((T.aD _ _ (by omega)).trans (T.aD _ _ (by omega))))))⟩
 have nA:hA.nx=h.nx+1+1+1:=by rw[hhA]
 obtain⟨h2,kf,G2⟩:=floor_run e (sv.gr GA) true ↑x.h ↑x.d (by omega)
 have k2:=k.gr (GA.trans G2)
 have F2:Fx (Mut col) h col h2 col:=Fx.gr (GA.trans G2) _ _
 have n2:h.nx+1+1+1≤h2.nx:=by have:=G2.nx;omega
 have gx:h2.t.get h.nx=some (.cells [.bool true,.int .i64 ↑x.h,.int .i64 ↑x.d,v]):=(G2.keep _ (by omega)).trans (by rw[hhA];simp[T.aA,n02])
 have gi:h2.t.get (h.nx+1)=some (.cells [.int .i64 10,.int .i64 N]):=(G2.keep _ (by omega)).trans (by rw[hhA];simp[T.aA])
 have gy:h2.t.get (h.nx+1+1)=some (.cells [.bool false,.int .i64 ↑a,.int .i64 ↑x.d,v]):=(G2.keep _ (by omega)).trans (by rw[hhA];simp[T.aA])
 have sv2:=sv.gr (GA.trans G2)
 have c0:col h.nx=0:=k.fz _ (Nat.le_refl _)
 have c1:col (h.nx+1)=0:=k.fz _ (by omega)
 have c2:col (h.nx+1+1)=0:=k.fz _ (by omega)
 have vsh:=sv.shape
 have g2c:=k2.g
 have g2f:=k2.fr
 generalize hy:evL E 59 _ _=y
 rw[bE E (e.no 59 (by simp)) (by rw[e.fn];kernel_rfl) body59 _ _ rfl]at hy
 simp only[aC,sub,Tryz.f59]at hy
 obtain⟨kB,FB⟩:=k2.again
 have F2b:=F2.two (FB.mut k2.mut_c)
 have haz:a=0:=by omega
 have hza:aE ↑a 0=true:=by rw[haz];rfl
 have sl:=sv2.sl
 rw[h3]at sl
 subst hhA
 clear sv2 sv vsh
 have hdq:aE ↑x.d ↑(K.D q.f)=true:=by rw[bU,h2d];simp
 have hz0:aE 0 0=true:=rfl
 cases sl<;>(try simp only[List.length_nil]at kf gx gy hget)<;>(simp (maxSteps:=2000000) [EVT,aT,bC,aX,bA,bT,aL,aN,aQ,bX,bF,aV,AV.cells,aG,aZ,val,aH,bN,bP,cP,bG,aU,aO,aM,bI,recheck,H.new,H.put,cT,aY,bB,AV.one,setArgs,bQ,bS,bJ,aR,aP,bK,TYC,TYK,MTK,hty,hpl,isub,hg,hia,fR,cN,hrow,hra,hi,hget,hle,hwi,hw1,hw2,hlt,kt,kf,gx,gi,gy,g2c,nc0,nc2,n02,Ne.symm nc2,hff,hcg,hdq,hza,hz0,z2,z3,z4,z5,z6,z7,z10,hfrm,g2f,nf2]at hy;exact⟨_,_,_,hy.symm,kB,F2b,rfl,rfl,⟨[],by simp⟩,Nat.le_refl _,fun j w hw=>⟨w,hw⟩⟩)
end
section
variable {E:Go.Ev.Env} {K:Pg} {c fid:Nat} {sid:Nat→Nat} {ws:Go.Ev.Own} {h:H} {col:Nat→Nat} {q:Cq}
theorem step_jmp (e:KOk E) (k:CK K c fid sid ws h col q) {i:Nat} {x:Sx} {co:List Ins} {v:AV} (hco:K.C[q.f]?=some co) (hcl:co.length=(K.τ q.f).length) (hx:(K.τ q.f)[i]?=some x) (hvi:(q.V q.f)[i]?=some (some v)) (hbx:x.h≤100000∧x.d≤100000∧x.tr.length≤100000) (hbt:2*uv (q.V q.f)+q.ts.length<1000000) (hus:q.us.length<1000000) (hmu:q.f∈q.us) (hlen:(K.τ q.f).length≤100000) {N:Nat} (hin:co[i]?=some ⟨11,↑N⟩) (hf:cM x.tr+0≤x.h) (ht:(K.τ q.f)[N]?=some x):StepR K c fid sid ws h col q (evL E 59 [.ptr (some (c,0)),.int .i64 ↑i] h):=by
 have hty:=e.ty
 have hpl:=e.pl
 have hg:=k.g
 have hff:=k.ff
 have hi:i<(K.τ q.f).length:=aI hx
 have hpa:(K.C.map cN)[q.f]?=some (cN co):=by simp[hco]
 have hcg:∀ hh:q.f<K.C.length,K.C[q.f]'hh=co:=fun hh=>by rw[List.getElem?_eq_getElem hh]at hco;exact Option.some.inj hco
 have hia:(co.map fR)[i]?=some (fR ⟨11,↑N⟩):=by simp[hin]
 have hrow:=k.rows q.f hff
 have hra:=fW K sid hff
 have hcb:=k.cc.2
 have hsb:=(k.cs q.f hff).2
 have nc0:c≠h.nx:=by omega
 have nc1:c≠h.nx+1:=by omega
 have nc2:c≠h.nx+1+1:=by omega
 have ns0:sid q.f≠h.nx:=by omega
 have ns1:sid q.f≠h.nx+1:=by omega
 have ns2:sid q.f≠h.nx+1+1:=by omega
 have n01:h.nx≠h.nx+1:=by omega
 have n02:h.nx≠h.nx+1+1:=by omega
 have n12:h.nx+1≠h.nx+1+1:=by omega
 have hlc:=eB (k.rl q.f hff)
 have hle:i*4+4≤(cellsOf (K.τ q.f) (q.V q.f)).length:=by rw[hlc];omega
 have hget:=eK hx hvi
 simp only[cellS]at hget
 have sv:=k.vals q.f i v x hff hvi hx
 have hfrm:=k.frm hmu
 have hfr:=k.fr
 have ncf:=k.ne_cf
 have nf0:fid≠h.nx:=by have:=k.cf.2;omega
 have nf1:fid≠h.nx+1:=by have:=k.cf.2;omega
 have nf2:fid≠h.nx+1+1:=by have:=k.cf.2;omega
 have hil:=cA K.S
 obtain⟨i1,hi1⟩:∃ j,j=i+1:=⟨_,rfl⟩
 have hwi:wr .i64 (↑i+1)=↑i1:=wrn (by rw[hi1];simp) (by omega)
 have kt:∀ h,evL E 95 [.int .i64 11] h=some (.tup [.int .i64 0,.int .i64 0],h):=fun h=>takes_run e 11 (by simp[dO]) h
 obtain⟨a,ha⟩:∃ a,a+0=x.h:=⟨x.h-0,by omega⟩
 obtain⟨b,hb⟩:∃ b,b=a+0:=⟨_,rfl⟩
 have haz:a=x.h:=by omega
 subst haz
 have hbz:b=x.h:=by omega
 subst hbz
 have hw1:wr .i64 ↑x.h=↑x.h:=wrn rfl (by omega)
 have hw2:wr .i64 ↑x.h=↑x.h:=wrn rfl (by omega)
 have hlt:ltI ↑x.h ↑(cM x.tr)=false:=dZ (by omega)
 obtain⟨hA,hhA⟩:∃ g:H,g=⟨((((((h.t.set h.nx (.cells [.bool false,.int .i64 0,.int .i64 0,.sl .full []])).set h.nx (.cells [.bool true,.int .i64 ↑x.h,.int .i64 ↑x.d,v])).set (h.nx+1) (.cells [.int .i64 0,.int .i64 0])).set (h.nx+1) (.cells [.int .i64 11,.int .i64 ↑N])).set (h.nx+1+1) (.cells [.bool false,.int .i64 0,.int .i64 0,.sl .full []])).set (h.nx+1+1) (.cells [.bool false,.int .i64 ↑x.h,.int .i64 ↑x.d,v])),h.nx+1+1+1⟩:=⟨_,rfl⟩
 have GA:Gr h hA:=by
  rw[hhA]
  exact⟨by simp only;omega,fun j hj=>(T.aD _ _ (by omega)).trans ((T.aD _ _ (by omega)).trans ((T.aD _ _ (by omega)).trans ((T.aD _ _ (by omega)).trans ((T.aD _ _ (by omega)).trans (T.aD _ _ (by omega))))))⟩
 have nA:hA.nx=h.nx+1+1+1:=by rw[hhA]
 obtain⟨h2,kf,G2⟩:=floor_run e (sv.gr GA) true ↑x.h ↑x.d (by omega)
 have k2:=k.gr (GA.trans G2)
 have F2:Fx (Mut col) h col h2 col:=Fx.gr (GA.trans G2) _ _
 have n2:h.nx+1+1+1≤h2.nx:=by have:=G2.nx;omega
 have gx:h2.t.get h.nx=some (.cells [.bool true,.int .i64 ↑x.h,.int .i64 ↑x.d,v]):=(G2.keep _ (by omega)).trans (by rw[hhA];simp[T.aA,n02])
 have gi:h2.t.get (h.nx+1)=some (.cells [.int .i64 11,.int .i64 ↑N]):=(G2.keep _ (by omega)).trans (by rw[hhA];simp[T.aA])
 have gy:h2.t.get (h.nx+1+1)=some (.cells [.bool false,.int .i64 ↑x.h,.int .i64 ↑x.d,v]):=(G2.keep _ (by omega)).trans (by rw[hhA];simp[T.aA])
 have sv2:=sv.gr (GA.trans G2)
 have c0:col h.nx=0:=k.fz _ (Nat.le_refl _)
 have c1:col (h.nx+1)=0:=k.fz _ (by omega)
 have c2:col (h.nx+1+1)=0:=k.fz _ (by omega)
 have vsh:=sv.shape
 have g2c:=k2.g
 have g2f:=k2.fr
 generalize hy:evL E 59 _ _=y
 rw[bE E (e.no 59 (by simp)) (by rw[e.fn];kernel_rfl) body59 _ _ rfl]at hy
 simp only[aC,sub,Tryz.f59]at hy
 obtain⟨h3,col3,q3,k3,K3,F3,a3,b3,c3,d3,e3,f3⟩:=to_run e k2 (i:=N) (x:=⟨x.h,x.d,x.tr⟩) hco hcl (ht) (b0:=false) (v:=v) sv2 (by first|omega|(simp;omega)) (by omega)
 subst hhA
 clear sv2 sv
 rcases vsh with rfl|⟨id2,m3,rfl⟩|⟨id2,m3,m4,rfl⟩<;>(simp (maxSteps:=2000000) [EVT,aT,bC,aX,bA,bT,aL,aN,aQ,bX,bF,bW,dE,cD,aV,AV.cells,aG,aZ,val,aH,bN,bP,cP,bG,aU,aO,aM,bI,recheck,H.new,H.put,cT,aY,bB,AV.one,setArgs,bQ,bS,bJ,aR,aP,bK,TYC,TYK,MTK,hty,hpl,isub,hg,hpa,hia,fR,cN,hrow,hra,hi,hget,hle,hwi,hw1,hlt,kt,kf,gx,gi,gy,g2c,nc0,nc2,n02,bU,k3]at hy;exact⟨_,_,_,hy.symm,K3,F2.two F3,c3,by simp only[Wq,b3,d3],⟨[],by rw[b3];simp⟩,e3,f3⟩)
end
end Go.Proofs.YtogjplcnmibnlaaGreatDoor.Ck
