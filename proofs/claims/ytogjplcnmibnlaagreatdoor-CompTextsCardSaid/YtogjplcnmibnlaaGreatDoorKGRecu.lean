/- The reference's verifier: step, a kind of instruction at a time. Written by a program. -/
import Derived.Test.YtogjplcnmibnlaaGreatDoorKGPlain
set_option autoImplicit false
set_option maxRecDepth 100000
set_option maxHeartbeats 8000000
set_option linter.unusedSimpArgs false
set_option linter.unusedVariables false
namespace Go.Proofs.YtogjplcnmibnlaaGreatDoor.Ck
open Go.Ev Go.Proofs.YtogjplcnmibnlaaGreatDoor.Env
open Go.Proofs.YtogjplcnmibnlaaGreatDoor.Pa (Gr cC bR)
section
variable {E:Go.Ev.Env} {K:Pg} {c fid:Nat} {sid:Nat→Nat} {ws:Go.Ev.Own} {h:H} {col:Nat→Nat} {q:Cq}
theorem step_str (e:KOk E) (k:CK K c fid sid ws h col q) {i:Nat} {x:Sx} {co:List Ins} {v:AV} (hco:K.C[q.f]?=some co) (hcl:co.length=(K.τ q.f).length) (hx:(K.τ q.f)[i]?=some x) (hvi:(q.V q.f)[i]?=some (some v)) (hbx:x.h≤100000∧x.d≤100000∧x.tr.length≤100000) (hbt:2*uv (q.V q.f)+q.ts.length<1000000) (hus:q.us.length<1000000) (hmu:q.f∈q.us) (hlen:(K.τ q.f).length≤100000) {N:Nat} (hin:co[i]?=some ⟨2,↑N⟩) (hf:cM x.tr+0≤x.h) (hN:N<K.S.length) (hn:(K.τ q.f)[i+1]?=some ⟨x.h+1,x.d,x.tr⟩):StepR K c fid sid ws h col q (evL E 59 [.ptr (some (c,0)),.int .i64 ↑i] h):=by
 have hty:=e.ty
 have hpl:=e.pl
 have hg:=k.g
 have hff:=k.ff
 have hi:i<(K.τ q.f).length:=aI hx
 have hpa:(K.C.map cN)[q.f]?=some (cN co):=by simp[hco]
 have hcg:∀ hh:q.f<K.C.length,K.C[q.f]'hh=co:=fun hh=>by rw[List.getElem?_eq_getElem hh]at hco;exact Option.some.inj hco
 have hia:(co.map fR)[i]?=some (fR ⟨2,↑N⟩):=by simp[hin]
 have hrow:=k.rows q.f hff
 have hra:=fW K sid hff
 have hcb:=k.cc.2
 have hsb:=(k.cs q.f hff).2
 have nc0:c≠h.nx:=by omega
 have nc1:c≠h.nx+1:=by omega
 have nc2:c≠h.nx+1+1:=by omega
 have ns0:sid q.f≠h.nx:=by omega
 have ns1:sid q.f≠h.nx+1:=by omega
 have ns2:sid q.f≠h.nx+1+1:=by omega
 have n01:h.nx≠h.nx+1:=by omega
 have n02:h.nx≠h.nx+1+1:=by omega
 have n12:h.nx+1≠h.nx+1+1:=by omega
 have hlc:=eB (k.rl q.f hff)
 have hle:i*4+4≤(cellsOf (K.τ q.f) (q.V q.f)).length:=by rw[hlc];omega
 have hget:=eK hx hvi
 simp only[cellS]at hget
 have sv:=k.vals q.f i v x hff hvi hx
 have hfrm:=k.frm hmu
 have hfr:=k.fr
 have ncf:=k.ne_cf
 have nf0:fid≠h.nx:=by have:=k.cf.2;omega
 have nf1:fid≠h.nx+1:=by have:=k.cf.2;omega
 have nf2:fid≠h.nx+1+1:=by have:=k.cf.2;omega
 have hil:=cA K.S
 obtain⟨i1,hi1⟩:∃ j,j=i+1:=⟨_,rfl⟩
 have hwi:wr .i64 (↑i+1)=↑i1:=wrn (by rw[hi1];simp) (by omega)
 have kt:∀ h,evL E 95 [.int .i64 2] h=some (.tup [.int .i64 0,.int .i64 1],h):=fun h=>takes_run e 2 (by simp[dO]) h
 have hN0:ltI ↑N 0=false:=by rw[dI];simp
 have hN1:ltI ↑N ↑K.S.length=true:=eR hN
 obtain⟨a,ha⟩:∃ a,a+0=x.h:=⟨x.h-0,by omega⟩
 obtain⟨b,hb⟩:∃ b,b=a+1:=⟨_,rfl⟩
 have haz:a=x.h:=by omega
 subst haz
 have hw1:wr .i64 ↑x.h=↑x.h:=wrn rfl (by omega)
 have hw2:wr .i64 (↑x.h+1)=↑b:=wrn (by rw[hb];simp) (by omega)
 have hlt:ltI ↑x.h ↑(cM x.tr)=false:=dZ (by omega)
 obtain⟨hA,hhA⟩:∃ g:H,g=⟨((((((h.t.set h.nx (.cells [.bool false,.int .i64 0,.int .i64 0,.sl .full []])).set h.nx (.cells [.bool true,.int .i64 ↑x.h,.int .i64 ↑x.d,v])).set (h.nx+1) (.cells [.int .i64 0,.int .i64 0])).set (h.nx+1) (.cells [.int .i64 2,.int .i64 ↑N])).set (h.nx+1+1) (.cells [.bool false,.int .i64 0,.int .i64 0,.sl .full []])).set (h.nx+1+1) (.cells [.bool false,.int .i64 ↑b,.int .i64 ↑x.d,v])),h.nx+1+1+1⟩:=⟨_,rfl⟩
 have GA:Gr h hA:=by
  rw[hhA]
  exact⟨by simp only;omega,fun j hj=>(T.aD _ _ (by omega)).trans ((T.aD _ _ (by omega)).trans ((T.aD _ _ (by omega)).trans ((T.aD _ _ (by omega)).trans ((T.aD _ _ (by omega)).trans (T.aD _ _ (by omega))))))⟩
 have nA:hA.nx=h.nx+1+1+1:=by rw[hhA]
 obtain⟨h2,kf,G2⟩:=floor_run e (sv.gr GA) true ↑x.h ↑x.d (by omega)
 have k2:=k.gr (GA.trans G2)
 have F2:Fx (Mut col) h col h2 col:=Fx.gr (GA.trans G2) _ _
 have n2:h.nx+1+1+1≤h2.nx:=by have:=G2.nx;omega
 have gx:h2.t.get h.nx=some (.cells [.bool true,.int .i64 ↑x.h,.int .i64 ↑x.d,v]):=(G2.keep _ (by omega)).trans (by rw[hhA];simp[T.aA,n02])
 have gi:h2.t.get (h.nx+1)=some (.cells [.int .i64 2,.int .i64 ↑N]):=(G2.keep _ (by omega)).trans (by rw[hhA];simp[T.aA])
 have gy:h2.t.get (h.nx+1+1)=some (.cells [.bool false,.int .i64 ↑b,.int .i64 ↑x.d,v]):=(G2.keep _ (by omega)).trans (by rw[hhA];simp[T.aA])
 have sv2:=sv.gr (GA.trans G2)
 have c0:col h.nx=0:=k.fz _ (Nat.le_refl _)
 have c1:col (h.nx+1)=0:=k.fz _ (by omega)
 have c2:col (h.nx+1+1)=0:=k.fz _ (by omega)
 have vsh:=sv.shape
 have g2c:=k2.g
 have g2f:=k2.fr
 generalize hy:evL E 59 _ _=y
 rw[bE E (e.no 59 (by simp)) (by rw[e.fn];kernel_rfl) body59 _ _ rfl]at hy
 simp only[aC,sub,Tryz.f59]at hy
 obtain⟨kB,FB⟩:=k2.again
 have F2b:=F2.two (FB.mut k2.mut_c)
 obtain⟨h3,col3,q3,k3,K3,F3,a3,b3,c3,d3,e3,f3⟩:=to_run e kB (i:=i1) (x:=⟨b,x.d,x.tr⟩) hco hcl (by rw[hi1,hn,hb]) (b0:=false) (v:=v) (sv2.fx FB (by rintro j hj rfl;have:=k2.cc.1;omega)) (by first|omega|(simp;omega)) (by omega)
 subst hhA
 clear sv2 sv
 rcases vsh with rfl|⟨id2,m3,rfl⟩|⟨id2,m3,m4,rfl⟩<;>(simp (maxSteps:=2000000) [EVT,aT,bC,aX,bA,bT,aL,aN,aQ,bX,bF,bW,dE,cD,aV,AV.cells,aG,aZ,val,aH,bN,bP,cP,bG,aU,aO,aM,bI,recheck,H.new,H.put,cT,aY,bB,AV.one,setArgs,bQ,bS,bJ,aR,aP,bK,TYC,TYK,MTK,hty,hpl,isub,hg,hpa,hia,fR,cN,hrow,hra,hi,hget,hle,hwi,hw1,hw2,hlt,kt,kf,gx,gi,gy,g2c,hil,nc0,nc2,n02,Ne.symm nc2,bU,hN0,hN1,k3]at hy;exact⟨_,_,_,hy.symm,K3,F2b.two F3,c3,by simp only[Wq,b3,d3],⟨[],by rw[b3];simp⟩,e3,f3⟩)
end
section
variable {E:Go.Ev.Env} {K:Pg} {c fid:Nat} {sid:Nat→Nat} {ws:Go.Ev.Own} {h:H} {col:Nat→Nat} {q:Cq}
theorem step_get (e:KOk E) (k:CK K c fid sid ws h col q) {i:Nat} {x:Sx} {co:List Ins} {v:AV} (hco:K.C[q.f]?=some co) (hcl:co.length=(K.τ q.f).length) (hx:(K.τ q.f)[i]?=some x) (hvi:(q.V q.f)[i]?=some (some v)) (hbx:x.h≤100000∧x.d≤100000∧x.tr.length≤100000) (hbt:2*uv (q.V q.f)+q.ts.length<1000000) (hus:q.us.length<1000000) (hmu:q.f∈q.us) (hlen:(K.τ q.f).length≤100000) {N:Nat} (hin:co[i]?=some ⟨3,↑N⟩) (hf:cM x.tr+0≤x.h) (hN:N<x.d) (hn:(K.τ q.f)[i+1]?=some ⟨x.h+1,x.d,x.tr⟩):StepR K c fid sid ws h col q (evL E 59 [.ptr (some (c,0)),.int .i64 ↑i] h):=by
 have hty:=e.ty
 have hpl:=e.pl
 have hg:=k.g
 have hff:=k.ff
 have hi:i<(K.τ q.f).length:=aI hx
 have hpa:(K.C.map cN)[q.f]?=some (cN co):=by simp[hco]
 have hcg:∀ hh:q.f<K.C.length,K.C[q.f]'hh=co:=fun hh=>by rw[List.getElem?_eq_getElem hh]at hco;exact Option.some.inj hco
 have hia:(co.map fR)[i]?=some (fR ⟨3,↑N⟩):=by simp[hin]
 have hrow:=k.rows q.f hff
 have hra:=fW K sid hff
 have hcb:=k.cc.2
 have hsb:=(k.cs q.f hff).2
 have nc0:c≠h.nx:=by omega
 have nc1:c≠h.nx+1:=by omega
 have nc2:c≠h.nx+1+1:=by omega
 have ns0:sid q.f≠h.nx:=by omega
 have ns1:sid q.f≠h.nx+1:=by omega
 have ns2:sid q.f≠h.nx+1+1:=by omega
 have n01:h.nx≠h.nx+1:=by omega
 have n02:h.nx≠h.nx+1+1:=by omega
 have n12:h.nx+1≠h.nx+1+1:=by omega
 have hlc:=eB (k.rl q.f hff)
 have hle:i*4+4≤(cellsOf (K.τ q.f) (q.V q.f)).length:=by rw[hlc];omega
 have hget:=eK hx hvi
 simp only[cellS]at hget
 have sv:=k.vals q.f i v x hff hvi hx
 have hfrm:=k.frm hmu
 have hfr:=k.fr
 have ncf:=k.ne_cf
 have nf0:fid≠h.nx:=by have:=k.cf.2;omega
 have nf1:fid≠h.nx+1:=by have:=k.cf.2;omega
 have nf2:fid≠h.nx+1+1:=by have:=k.cf.2;omega
 have hil:=cA K.S
 obtain⟨i1,hi1⟩:∃ j,j=i+1:=⟨_,rfl⟩
 have hwi:wr .i64 (↑i+1)=↑i1:=wrn (by rw[hi1];simp) (by omega)
 have kt:∀ h,evL E 95 [.int .i64 3] h=some (.tup [.int .i64 0,.int .i64 1],h):=fun h=>takes_run e 3 (by simp[dO]) h
 have hN0:ltI ↑N 0=false:=by rw[dI];simp
 have hN1:ltI ↑N ↑x.d=true:=eR hN
 obtain⟨a,ha⟩:∃ a,a+0=x.h:=⟨x.h-0,by omega⟩
 obtain⟨b,hb⟩:∃ b,b=a+1:=⟨_,rfl⟩
 have haz:a=x.h:=by omega
 subst haz
 have hw1:wr .i64 ↑x.h=↑x.h:=wrn rfl (by omega)
 have hw2:wr .i64 (↑x.h+1)=↑b:=wrn (by rw[hb];simp) (by omega)
 have hlt:ltI ↑x.h ↑(cM x.tr)=false:=dZ (by omega)
 obtain⟨hA,hhA⟩:∃ g:H,g=⟨((((((h.t.set h.nx (.cells [.bool false,.int .i64 0,.int .i64 0,.sl .full []])).set h.nx (.cells [.bool true,.int .i64 ↑x.h,.int .i64 ↑x.d,v])).set (h.nx+1) (.cells [.int .i64 0,.int .i64 0])).set (h.nx+1) (.cells [.int .i64 3,.int .i64 ↑N])).set (h.nx+1+1) (.cells [.bool false,.int .i64 0,.int .i64 0,.sl .full []])).set (h.nx+1+1) (.cells [.bool false,.int .i64 ↑b,.int .i64 ↑x.d,v])),h.nx+1+1+1⟩:=⟨_,rfl⟩
 have GA:Gr h hA:=by
  rw[hhA]
  exact⟨by simp only;omega,fun j hj=>(T.aD _ _ (by omega)).trans ((T.aD _ _ (by omega)).trans ((T.aD _ _ (by omega)).trans ((T.aD _ _ (by omega)).trans ((T.aD _ _ (by omega)).trans (T.aD _ _ (by omega))))))⟩
 have nA:hA.nx=h.nx+1+1+1:=by rw[hhA]
 obtain⟨h2,kf,G2⟩:=floor_run e (sv.gr GA) true ↑x.h ↑x.d (by omega)
 have k2:=k.gr (GA.trans G2)
 have F2:Fx (Mut col) h col h2 col:=Fx.gr (GA.trans G2) _ _
 have n2:h.nx+1+1+1≤h2.nx:=by have:=G2.nx;omega
 have gx:h2.t.get h.nx=some (.cells [.bool true,.int .i64 ↑x.h,.int .i64 ↑x.d,v]):=(G2.keep _ (by omega)).trans (by rw[hhA];simp[T.aA,n02])
 have gi:h2.t.get (h.nx+1)=some (.cells [.int .i64 3,.int .i64 ↑N]):=(G2.keep _ (by omega)).trans (by rw[hhA];simp[T.aA])
 have gy:h2.t.get (h.nx+1+1)=some (.cells [.bool false,.int .i64 ↑b,.int .i64 ↑x.d,v]):=(G2.keep _ (by omega)).trans (by rw[hhA];simp[T.aA])
 have sv2:=sv.gr (GA.trans G2)
 have c0:col h.nx=0:=k.fz _ (Nat.le_refl _)
 have c1:col (h.nx+1)=0:=k.fz _ (by omega)
 have c2:col (h.nx+1+1)=0:=k.fz _ (by omega)
 have vsh:=sv.shape
 have g2c:=k2.g
 have g2f:=k2.fr
 generalize hy:evL E 59 _ _=y
 rw[bE E (e.no 59 (by simp)) (by rw[e.fn];kernel_rfl) body59 _ _ rfl]at hy
 simp only[aC,sub,Tryz.f59]at hy
 obtain⟨kB,FB⟩:=k2.again
 have F2b:=F2.two (FB.mut k2.mut_c)
 obtain⟨h3,col3,q3,k3,K3,F3,a3,b3,c3,d3,e3,f3⟩:=to_run e kB (i:=i1) (x:=⟨b,x.d,x.tr⟩) hco hcl (by rw[hi1,hn,hb]) (b0:=false) (v:=v) (sv2.fx FB (by rintro j hj rfl;have:=k2.cc.1;omega)) (by first|omega|(simp;omega)) (by omega)
 subst hhA
 clear sv2 sv
 rcases vsh with rfl|⟨id2,m3,rfl⟩|⟨id2,m3,m4,rfl⟩<;>(simp (maxSteps:=2000000) [EVT,aT,bC,aX,bA,bT,aL,aN,aQ,bX,bF,bW,dE,cD,aV,AV.cells,aG,aZ,val,aH,bN,bP,cP,bG,aU,aO,aM,bI,recheck,H.new,H.put,cT,aY,bB,AV.one,setArgs,bQ,bS,bJ,aR,aP,bK,TYC,TYK,MTK,hty,hpl,isub,hg,hpa,hia,fR,cN,hrow,hra,hi,hget,hle,hwi,hw1,hw2,hlt,kt,kf,gx,gi,gy,g2c,hil,nc0,nc2,n02,Ne.symm nc2,bU,hN0,hN1,k3]at hy;exact⟨_,_,_,hy.symm,K3,F2b.two F3,c3,by simp only[Wq,b3,d3],⟨[],by rw[b3];simp⟩,e3,f3⟩)
end
section
variable {E:Go.Ev.Env} {K:Pg} {c fid:Nat} {sid:Nat→Nat} {ws:Go.Ev.Own} {h:H} {col:Nat→Nat} {q:Cq}
theorem step_clos (e:KOk E) (k:CK K c fid sid ws h col q) {i:Nat} {x:Sx} {co:List Ins} {v:AV} (hco:K.C[q.f]?=some co) (hcl:co.length=(K.τ q.f).length) (hx:(K.τ q.f)[i]?=some x) (hvi:(q.V q.f)[i]?=some (some v)) (hbx:x.h≤100000∧x.d≤100000∧x.tr.length≤100000) (hbt:2*uv (q.V q.f)+q.ts.length<1000000) (hus:q.us.length<1000000) (hmu:q.f∈q.us) (hlen:(K.τ q.f).length≤100000) {N:Nat} (hin:co[i]?=some ⟨4,↑N⟩) (hf:cM x.tr+0≤x.h) (hN:N<K.C.length) (hD:K.D N=x.d+1) (hn:(K.τ q.f)[i+1]?=some ⟨x.h+1,x.d,x.tr⟩):StepR K c fid sid ws h col q (evL E 59 [.ptr (some (c,0)),.int .i64 ↑i] h):=by
 have hty:=e.ty
 have hpl:=e.pl
 have hg:=k.g
 have hff:=k.ff
 have hi:i<(K.τ q.f).length:=aI hx
 have hpa:(K.C.map cN)[q.f]?=some (cN co):=by simp[hco]
 have hcg:∀ hh:q.f<K.C.length,K.C[q.f]'hh=co:=fun hh=>by rw[List.getElem?_eq_getElem hh]at hco;exact Option.some.inj hco
 have hia:(co.map fR)[i]?=some (fR ⟨4,↑N⟩):=by simp[hin]
 have hrow:=k.rows q.f hff
 have hra:=fW K sid hff
 have hcb:=k.cc.2
 have hsb:=(k.cs q.f hff).2
 have nc0:c≠h.nx:=by omega
 have nc1:c≠h.nx+1:=by omega
 have nc2:c≠h.nx+1+1:=by omega
 have ns0:sid q.f≠h.nx:=by omega
 have ns1:sid q.f≠h.nx+1:=by omega
 have ns2:sid q.f≠h.nx+1+1:=by omega
 have n01:h.nx≠h.nx+1:=by omega
 have n02:h.nx≠h.nx+1+1:=by omega
 have n12:h.nx+1≠h.nx+1+1:=by omega
 have hlc:=eB (k.rl q.f hff)
 have hle:i*4+4≤(cellsOf (K.τ q.f) (q.V q.f)).length:=by rw[hlc];omega
 have hget:=eK hx hvi
 simp only[cellS]at hget
 have sv:=k.vals q.f i v x hff hvi hx
 have hfrm:=k.frm hmu
 have hfr:=k.fr
 have ncf:=k.ne_cf
 have nf0:fid≠h.nx:=by have:=k.cf.2;omega
 have nf1:fid≠h.nx+1:=by have:=k.cf.2;omega
 have nf2:fid≠h.nx+1+1:=by have:=k.cf.2;omega
 have hil:=cA K.S
 obtain⟨i1,hi1⟩:∃ j,j=i+1:=⟨_,rfl⟩
 have hwi:wr .i64 (↑i+1)=↑i1:=wrn (by rw[hi1];simp) (by omega)
 have kt:∀ h,evL E 95 [.int .i64 4] h=some (.tup [.int .i64 0,.int .i64 1],h):=fun h=>takes_run e 4 (by simp[dO]) h
 have hwd:wr .i64 (↑x.d+1)=↑(K.D N):=wrn (by rw[hD];simp) (by omega)
 obtain⟨a,ha⟩:∃ a,a+0=x.h:=⟨x.h-0,by omega⟩
 obtain⟨b,hb⟩:∃ b,b=a+1:=⟨_,rfl⟩
 have haz:a=x.h:=by omega
 subst haz
 have hw1:wr .i64 ↑x.h=↑x.h:=wrn rfl (by omega)
 have hw2:wr .i64 (↑x.h+1)=↑b:=wrn (by rw[hb];simp) (by omega)
 have hlt:ltI ↑x.h ↑(cM x.tr)=false:=dZ (by omega)
 obtain⟨hA,hhA⟩:∃ g:H,g=⟨((((((h.t.set h.nx (.cells [.bool false,.int .i64 0,.int .i64 0,.sl .full []])).set h.nx (.cells [.bool true,.int .i64 ↑x.h,.int .i64 ↑x.d,v])).set (h.nx+1) (.cells [.int .i64 0,.int .i64 0])).set (h.nx+1) (.cells [.int .i64 4,.int .i64 ↑N])).set (h.nx+1+1) (.cells [.bool false,.int .i64 0,.int .i64 0,.sl .full []])).set (h.nx+1+1) (.cells [.bool false,.int .i64 ↑b,.int .i64 ↑x.d,v])),h.nx+1+1+1⟩:=⟨_,rfl⟩
 have GA:Gr h hA:=by
  rw[hhA]
  exact⟨by simp only;omega,fun j hj=>(T.aD _ _ (by omega)).trans ((T.aD _ _ (by omega)).trans ((T.aD _ _ (by omega)).trans ((T.aD _ _ (by omega)).trans ((T.aD _ _ (by omega)).trans (T.aD _ _ (by omega))))))⟩
 have nA:hA.nx=h.nx+1+1+1:=by rw[hhA]
 obtain⟨h2,kf,G2⟩:=floor_run e (sv.gr GA) true ↑x.h ↑x.d (by omega)
 have k2:=k.gr (GA.trans G2)
 have F2:Fx (Mut col) h col h2 col:=Fx.gr (GA.trans G2) _ _
 have n2:h.nx+1+1+1≤h2.nx:=by have:=G2.nx;omega
 have gx:h2.t.get h.nx=some (.cells [.bool true,.int .i64 ↑x.h,.int .i64 ↑x.d,v]):=(G2.keep _ (by omega)).trans (by rw[hhA];simp[T.aA,n02])
 have gi:h2.t.get (h.nx+1)=some (.cells [.int .i64 4,.int .i64 ↑N]):=(G2.keep _ (by omega)).trans (by rw[hhA];simp[T.aA])
 have gy:h2.t.get (h.nx+1+1)=some (.cells [.bool false,.int .i64 ↑b,.int .i64 ↑x.d,v]):=(G2.keep _ (by omega)).trans (by rw[hhA];simp[T.aA])
 have sv2:=sv.gr (GA.trans G2)
 have c0:col h.nx=0:=k.fz _ (Nat.le_refl _)
 have c1:col (h.nx+1)=0:=k.fz _ (by omega)
 have c2:col (h.nx+1+1)=0:=k.fz _ (by omega)
 have vsh:=sv.shape
 have g2c:=k2.g
 have g2f:=k2.fr
 generalize hy:evL E 59 _ _=y
 rw[bE E (e.no 59 (by simp)) (by rw[e.fn];kernel_rfl) body59 _ _ rfl]at hy
 simp only[aC,sub,Tryz.f59]at hy
 obtain⟨h5,col5,q5,k5,K5,F5,a5,b5,c5,d5,w5,l5,e5⟩:=begin_run e k2 hN hus
 have hgy:=((F5.keep (h.nx+1+1) (by omega)).2 (by rw[Mut,c2];omega)).trans gy
 have sv5:=sv2.fx F5 (by intro j hj;rw[Mut,hj];omega)
 rw[←c5]at hco hcl hn
 obtain⟨h3,col3,q3,k3,K3,F3,a3,b3,c3,d3,e3,f3⟩:=to_run e K5 (i:=i1) (x:=⟨b,x.d,x.tr⟩) hco hcl (by rw[hi1,hn,hb]) (b0:=false) (v:=v) sv5 (by first|omega|(simp;omega)) (by rw[b5];omega)
 subst hhA
 clear sv2 sv sv5
 rcases vsh with rfl|⟨id2,m3,rfl⟩|⟨id2,m3,m4,rfl⟩<;>(simp[EVT,aT,bC,aX,bA,bT,aL,aN,aQ,bX,bF,bW,dE,cD,aV,AV.cells,aG,aZ,val,aH,bN,bP,cP,bG,aU,aO,aM,bI,recheck,H.new,H.put,cT,aY,bB,AV.one,setArgs,bQ,bS,bJ,aR,aP,bK,TYC,TYK,MTK,hty,hpl,isub,hg,hpa,hia,fR,cN,hrow,hra,hi,hget,hle,hwi,hw1,hw2,hlt,kt,kf,gx,gi,gy,g2c,nc0,nc2,n02,bU,k5,hgy,hwd,k3]at hy;exact⟨_,_,_,hy.symm,K3,(F2.two F5).two F3,c3.trans c5,by rw[←w5];simp only[Wq,b3,d3],⟨l5,by rw[b3];exact e5⟩,by rw[←b5];rw[c5,d5]at e3;exact e3,by rw[c5,d5]at f3;exact f3⟩)
end
section
variable {E:Go.Ev.Env} {K:Pg} {c fid:Nat} {sid:Nat→Nat} {ws:Go.Ev.Own} {h:H} {col:Nat→Nat} {q:Cq}
theorem step_recu (e:KOk E) (k:CK K c fid sid ws h col q) {i:Nat} {x:Sx} {co:List Ins} {v:AV} (hco:K.C[q.f]?=some co) (hcl:co.length=(K.τ q.f).length) (hx:(K.τ q.f)[i]?=some x) (hvi:(q.V q.f)[i]?=some (some v)) (hbx:x.h≤100000∧x.d≤100000∧x.tr.length≤100000) (hbt:2*uv (q.V q.f)+q.ts.length<1000000) (hus:q.us.length<1000000) (hmu:q.f∈q.us) (hlen:(K.τ q.f).length≤100000) {N:Nat} (hin:co[i]?=some ⟨5,↑N⟩) (hf:cM x.tr+0≤x.h) (hN:N<K.C.length) (hD:K.D N=x.d+2) (hn:(K.τ q.f)[i+1]?=some ⟨x.h+1,x.d,x.tr⟩):StepR K c fid sid ws h col q (evL E 59 [.ptr (some (c,0)),.int .i64 ↑i] h):=by
 have hty:=e.ty
 have hpl:=e.pl
 have hg:=k.g
 have hff:=k.ff
 have hi:i<(K.τ q.f).length:=aI hx
 have hpa:(K.C.map cN)[q.f]?=some (cN co):=by simp[hco]
 have hcg:∀ hh:q.f<K.C.length,K.C[q.f]'hh=co:=fun hh=>by rw[List.getElem?_eq_getElem hh]at hco;exact Option.some.inj hco
 have hia:(co.map fR)[i]?=some (fR ⟨5,↑N⟩):=by simp[hin]
 have hrow:=k.rows q.f hff
 have hra:=fW K sid hff
 have hcb:=k.cc.2
 have hsb:=(k.cs q.f hff).2
 have nc0:c≠h.nx:=by omega
 have nc1:c≠h.nx+1:=by omega
 have nc2:c≠h.nx+1+1:=by omega
 have ns0:sid q.f≠h.nx:=by omega
 have ns1:sid q.f≠h.nx+1:=by omega
 have ns2:sid q.f≠h.nx+1+1:=by omega
 have n01:h.nx≠h.nx+1:=by omega
 have n02:h.nx≠h.nx+1+1:=by omega
 have n12:h.nx+1≠h.nx+1+1:=by omega
 have hlc:=eB (k.rl q.f hff)
 have hle:i*4+4≤(cellsOf (K.τ q.f) (q.V q.f)).length:=by rw[hlc];omega
 have hget:=eK hx hvi
 simp only[cellS]at hget
 have sv:=k.vals q.f i v x hff hvi hx
 have hfrm:=k.frm hmu
 have hfr:=k.fr
 have ncf:=k.ne_cf
 have nf0:fid≠h.nx:=by have:=k.cf.2;omega
 have nf1:fid≠h.nx+1:=by have:=k.cf.2;omega
 have nf2:fid≠h.nx+1+1:=by have:=k.cf.2;omega
 have hil:=cA K.S
 obtain⟨i1,hi1⟩:∃ j,j=i+1:=⟨_,rfl⟩
 have hwi:wr .i64 (↑i+1)=↑i1:=wrn (by rw[hi1];simp) (by omega)
 have kt:∀ h,evL E 95 [.int .i64 5] h=some (.tup [.int .i64 0,.int .i64 1],h):=fun h=>takes_run e 5 (by simp[dO]) h
 have hwd:wr .i64 (↑x.d+2)=↑(K.D N):=wrn (by rw[hD];simp) (by omega)
 obtain⟨a,ha⟩:∃ a,a+0=x.h:=⟨x.h-0,by omega⟩
 obtain⟨b,hb⟩:∃ b,b=a+1:=⟨_,rfl⟩
 have haz:a=x.h:=by omega
 subst haz
 have hw1:wr .i64 ↑x.h=↑x.h:=wrn rfl (by omega)
 have hw2:wr .i64 (↑x.h+1)=↑b:=wrn (by rw[hb];simp) (by omega)
 have hlt:ltI ↑x.h ↑(cM x.tr)=false:=dZ (by omega)
 obtain⟨hA,hhA⟩:∃ g:H,g=⟨((((((h.t.set h.nx (.cells [.bool false,.int .i64 0,.int .i64 0,.sl .full []])).set h.nx (.cells [.bool true,.int .i64 ↑x.h,.int .i64 ↑x.d,v])).set (h.nx+1) (.cells [.int .i64 0,.int .i64 0])).set (h.nx+1) (.cells [.int .i64 5,.int .i64 ↑N])).set (h.nx+1+1) (.cells [.bool false,.int .i64 0,.int .i64 0,.sl .full []])).set (h.nx+1+1) (.cells [.bool false,.int .i64 ↑b,.int .i64 ↑x.d,v])),h.nx+1+1+1⟩:=⟨_,rfl⟩
 have GA:Gr h hA:=by
  rw[hhA]
  exact⟨by simp only;omega,fun j hj=>(T.aD _ _ (by omega)).trans ((T.aD _ _ (by omega)).trans ((T.aD _ _ (by omega)).trans ((T.aD _ _ (by omega)).trans ((T.aD _ _ (by omega)).trans (T.aD _ _ (by omega))))))⟩
 have nA:hA.nx=h.nx+1+1+1:=by rw[hhA]
 obtain⟨h2,kf,G2⟩:=floor_run e (sv.gr GA) true ↑x.h ↑x.d (by omega)
 have k2:=k.gr (GA.trans G2)
 have F2:Fx (Mut col) h col h2 col:=Fx.gr (GA.trans G2) _ _
 have n2:h.nx+1+1+1≤h2.nx:=by have:=G2.nx;omega
 have gx:h2.t.get h.nx=some (.cells [.bool true,.int .i64 ↑x.h,.int .i64 ↑x.d,v]):=(G2.keep _ (by omega)).trans (by rw[hhA];simp[T.aA,n02])
 have gi:h2.t.get (h.nx+1)=some (.cells [.int .i64 5,.int .i64 ↑N]):=(G2.keep _ (by omega)).trans (by rw[hhA];simp[T.aA])
 have gy:h2.t.get (h.nx+1+1)=some (.cells [.bool false,.int .i64 ↑b,.int .i64 ↑x.d,v]):=(G2.keep _ (by omega)).trans (by rw[hhA];simp[T.aA])
 have sv2:=sv.gr (GA.trans G2)
 have c0:col h.nx=0:=k.fz _ (Nat.le_refl _)
 have c1:col (h.nx+1)=0:=k.fz _ (by omega)
 have c2:col (h.nx+1+1)=0:=k.fz _ (by omega)
 have vsh:=sv.shape
 have g2c:=k2.g
 have g2f:=k2.fr
 generalize hy:evL E 59 _ _=y
 rw[bE E (e.no 59 (by simp)) (by rw[e.fn];kernel_rfl) body59 _ _ rfl]at hy
 simp only[aC,sub,Tryz.f59]at hy
 obtain⟨h5,col5,q5,k5,K5,F5,a5,b5,c5,d5,w5,l5,e5⟩:=begin_run e k2 hN hus
 have hgy:=((F5.keep (h.nx+1+1) (by omega)).2 (by rw[Mut,c2];omega)).trans gy
 have sv5:=sv2.fx F5 (by intro j hj;rw[Mut,hj];omega)
 rw[←c5]at hco hcl hn
 obtain⟨h3,col3,q3,k3,K3,F3,a3,b3,c3,d3,e3,f3⟩:=to_run e K5 (i:=i1) (x:=⟨b,x.d,x.tr⟩) hco hcl (by rw[hi1,hn,hb]) (b0:=false) (v:=v) sv5 (by first|omega|(simp;omega)) (by rw[b5];omega)
 subst hhA
 clear sv2 sv sv5
 rcases vsh with rfl|⟨id2,m3,rfl⟩|⟨id2,m3,m4,rfl⟩<;>(simp[EVT,aT,bC,aX,bA,bT,aL,aN,aQ,bX,bF,bW,dE,cD,aV,AV.cells,aG,aZ,val,aH,bN,bP,cP,bG,aU,aO,aM,bI,recheck,H.new,H.put,cT,aY,bB,AV.one,setArgs,bQ,bS,bJ,aR,aP,bK,TYC,TYK,MTK,hty,hpl,isub,hg,hpa,hia,fR,cN,hrow,hra,hi,hget,hle,hwi,hw1,hw2,hlt,kt,kf,gx,gi,gy,g2c,nc0,nc2,n02,bU,k5,hgy,hwd,k3]at hy;exact⟨_,_,_,hy.symm,K3,(F2.two F5).two F3,c3.trans c5,by rw[←w5];simp only[Wq,b3,d3],⟨l5,by rw[b3];exact e5⟩,by rw[←b5];rw[c5,d5]at e3;exact e3,by rw[c5,d5]at f3;exact f3⟩)
end
end Go.Proofs.YtogjplcnmibnlaaGreatDoor.Ck
