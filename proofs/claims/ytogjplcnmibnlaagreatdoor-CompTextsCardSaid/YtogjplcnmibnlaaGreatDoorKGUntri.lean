/- The reference's verifier: step, a kind of instruction at a time. Written by a program. -/
import Derived.Test.YtogjplcnmibnlaaGreatDoorKGPlain
set_option autoImplicit false
set_option maxRecDepth 100000
set_option maxHeartbeats 8000000
set_option linter.unusedSimpArgs false
set_option linter.unusedVariables false
namespace Go.Proofs.YtogjplcnmibnlaaGreatDoor.Ck
open Go.Ev Go.Proofs.YtogjplcnmibnlaaGreatDoor.Env
open Go.Proofs.YtogjplcnmibnlaaGreatDoor.Pa (Gr cC bR)
section
variable {E:Go.Ev.Env} {K:Pg} {c fid:Nat} {sid:Nat→Nat} {ws:Go.Ev.Own} {h:H} {col:Nat→Nat} {q:Cq}
theorem step_jz (e:KOk E) (k:CK K c fid sid ws h col q) {i:Nat} {x:Sx} {co:List Ins} {v:AV} (hco:K.C[q.f]?=some co) (hcl:co.length=(K.τ q.f).length) (hx:(K.τ q.f)[i]?=some x) (hvi:(q.V q.f)[i]?=some (some v)) (hbx:x.h≤100000∧x.d≤100000∧x.tr.length≤100000) (hbt:2*uv (q.V q.f)+q.ts.length<1000000) (hus:q.us.length<1000000) (hmu:q.f∈q.us) (hlen:(K.τ q.f).length≤100000) {N:Nat} (hin:co[i]?=some ⟨12,↑N⟩) (hf:cM x.tr+1≤x.h) (ht:(K.τ q.f)[N]?=some ⟨x.h-1,x.d,x.tr⟩) (hn:(K.τ q.f)[i+1]?=some ⟨x.h-1,x.d,x.tr⟩):StepR K c fid sid ws h col q (evL E 59 [.ptr (some (c,0)),.int .i64 ↑i] h):=by
 have hty:=e.ty
 have hpl:=e.pl
 have hg:=k.g
 have hff:=k.ff
 have hi:i<(K.τ q.f).length:=aI hx
 have hpa:(K.C.map cN)[q.f]?=some (cN co):=by simp[hco]
 have hcg:∀ hh:q.f<K.C.length,K.C[q.f]'hh=co:=fun hh=>by rw[List.getElem?_eq_getElem hh]at hco;exact Option.some.inj hco
 have hia:(co.map fR)[i]?=some (fR ⟨12,↑N⟩):=by simp[hin]
 have hrow:=k.rows q.f hff
 have hra:=fW K sid hff
 have hcb:=k.cc.2
 have hsb:=(k.cs q.f hff).2
 have nc0:c≠h.nx:=by omega
 have nc1:c≠h.nx+1:=by omega
 have nc2:c≠h.nx+1+1:=by omega
 have ns0:sid q.f≠h.nx:=by omega
 have ns1:sid q.f≠h.nx+1:=by omega
 have ns2:sid q.f≠h.nx+1+1:=by omega
 have n01:h.nx≠h.nx+1:=by omega
 have n02:h.nx≠h.nx+1+1:=by omega
 have n12:h.nx+1≠h.nx+1+1:=by omega
 have hlc:=eB (k.rl q.f hff)
 have hle:i*4+4≤(cellsOf (K.τ q.f) (q.V q.f)).length:=by rw[hlc];omega
 have hget:=eK hx hvi
 simp only[cellS]at hget
 have sv:=k.vals q.f i v x hff hvi hx
 have hfrm:=k.frm hmu
 have hfr:=k.fr
 have ncf:=k.ne_cf
 have nf0:fid≠h.nx:=by have:=k.cf.2;omega
 have nf1:fid≠h.nx+1:=by have:=k.cf.2;omega
 have nf2:fid≠h.nx+1+1:=by have:=k.cf.2;omega
 have hil:=cA K.S
 obtain⟨i1,hi1⟩:∃ j,j=i+1:=⟨_,rfl⟩
 have hwi:wr .i64 (↑i+1)=↑i1:=wrn (by rw[hi1];simp) (by omega)
 have kt:∀ h,evL E 95 [.int .i64 12] h=some (.tup [.int .i64 1,.int .i64 0],h):=fun h=>takes_run e 12 (by simp[dO]) h
 obtain⟨a,ha⟩:∃ a,a+1=x.h:=⟨x.h-1,by omega⟩
 obtain⟨b,hb⟩:∃ b,b=a+0:=⟨_,rfl⟩
 have hbz:a=b:=by omega
 subst hbz
 have hw1:wr .i64 (↑x.h-1)=↑a:=wrn (by rw[←ha];simp) (by omega)
 have hw2:wr .i64 ↑a=↑a:=wrn rfl (by omega)
 have hlt:ltI ↑a ↑(cM x.tr)=false:=dZ (by omega)
 obtain⟨hA,hhA⟩:∃ g:H,g=⟨((((((h.t.set h.nx (.cells [.bool false,.int .i64 0,.int .i64 0,.sl .full []])).set h.nx (.cells [.bool true,.int .i64 ↑x.h,.int .i64 ↑x.d,v])).set (h.nx+1) (.cells [.int .i64 0,.int .i64 0])).set (h.nx+1) (.cells [.int .i64 12,.int .i64 ↑N])).set (h.nx+1+1) (.cells [.bool false,.int .i64 0,.int .i64 0,.sl .full []])).set (h.nx+1+1) (.cells [.bool false,.int .i64 ↑a,.int .i64 ↑x.d,v])),h.nx+1+1+1⟩:=⟨_,rfl⟩
 have GA:Gr h hA:=by
  rw[hhA]
  exact⟨by simp only;omega,fun j hj=>(T.aD _ _ (by omega)).trans ((T.aD _ _ (by omega)).trans ((T.aD _ _ (by omega)).trans ((T.aD _ _ (by omega)).trans ((T.aD _ _ (by omega)).trans (T.aD _ _ (by omega))))))⟩
 have nA:hA.nx=h.nx+1+1+1:=by rw[hhA]
 obtain⟨h2,kf,G2⟩:=floor_run e (sv.gr GA) true ↑x.h ↑x.d (by omega)
 have k2:=k.gr (GA.trans G2)
 have F2:Fx (Mut col) h col h2 col:=Fx.gr (GA.trans G2) _ _
 have n2:h.nx+1+1+1≤h2.nx:=by have:=G2.nx;omega
 have gx:h2.t.get h.nx=some (.cells [.bool true,.int .i64 ↑x.h,.int .i64 ↑x.d,v]):=(G2.keep _ (by omega)).trans (by rw[hhA];simp[T.aA,n02])
 have gi:h2.t.get (h.nx+1)=some (.cells [.int .i64 12,.int .i64 ↑N]):=(G2.keep _ (by omega)).trans (by rw[hhA];simp[T.aA])
 have gy:h2.t.get (h.nx+1+1)=some (.cells [.bool false,.int .i64 ↑a,.int .i64 ↑x.d,v]):=(G2.keep _ (by omega)).trans (by rw[hhA];simp[T.aA])
 have sv2:=sv.gr (GA.trans G2)
 have c0:col h.nx=0:=k.fz _ (Nat.le_refl _)
 have c1:col (h.nx+1)=0:=k.fz _ (by omega)
 have c2:col (h.nx+1+1)=0:=k.fz _ (by omega)
 have vsh:=sv.shape
 have g2c:=k2.g
 have g2f:=k2.fr
 generalize hy:evL E 59 _ _=y
 rw[bE E (e.no 59 (by simp)) (by rw[e.fn];kernel_rfl) body59 _ _ rfl]at hy
 simp only[aC,sub,Tryz.f59]at hy
 obtain⟨h3,col3,q3,k3,K3,F3,a3,b3,c3,d3,e3,f3⟩:=to_run e k2 (i:=N) (x:=⟨a,x.d,x.tr⟩) hco hcl (by rw[ht,←ha,Nat.add_sub_cancel]) (b0:=false) (v:=v) sv2 (by first|omega|(simp;omega)) (by omega)
 have m3:∀ r,r<h2.nx→col r=0→col3 r=0∧h3.t.get r=h2.t.get r:=fun r hr hc=>⟨(F3.keep r hr).1.trans hc,(F3.keep r hr).2 (by rw[Mut,hc];omega)⟩
 have g3y:=(m3 (h.nx+1+1) (by omega) c2).2.trans gy
 have g3x:=(m3 h.nx (by omega) c0).2.trans gx
 have g3i:=(m3 (h.nx+1) (by omega) c1).2.trans gi
 have cy:=(m3 (h.nx+1+1) (by omega) c2).1
 have n3:=F3.nx
 have sv3:=sv2.fx F3 (by intro j hj;rw[Mut,hj];omega)
 have hco3:=hco
 have hcl3:=hcl
 have hn3:=hn
 rw[←c3]at hco3 hcl3 hn3
 obtain⟨h6,col6,q6,k6,K6,F6,a6,b6,c6,d6,e6,f6⟩:=to_run e K3 (i:=i1) (x:=⟨a,x.d,x.tr⟩) hco3 hcl3 (by rw[hi1,hn3,←ha,Nat.add_sub_cancel]) (b0:=false) (v:=v) sv3 (by first|omega|(simp;omega)) (by omega)
 subst hhA
 clear sv2 sv sv3
 rcases vsh with rfl|⟨id2,m3,rfl⟩|⟨id2,m3,m4,rfl⟩<;>(simp[EVT,aT,bC,aX,bA,bT,aL,aN,aQ,bX,bF,bW,dE,cD,aV,AV.cells,aG,aZ,val,aH,bN,bP,cP,bG,aU,aO,aM,bI,recheck,H.new,H.put,cT,aY,bB,AV.one,setArgs,bQ,bS,bJ,aR,aP,bK,TYC,TYK,MTK,hty,hpl,isub,hg,hpa,hia,fR,cN,hrow,hra,hi,hget,hle,hwi,hw1,hw2,hlt,kt,kf,gx,gi,gy,g2c,nc0,nc2,n02,bU,g3y,k3,k6]at hy;exact⟨_,_,_,hy.symm,K6,(F2.two F3).two F6,c6.trans c3,by simp only[Wq,b6,d6,b3,d3],⟨[],by rw[b6,b3];simp⟩,by rw[c3]at e6;omega,fun j w hw=>by obtain⟨w1,hw1⟩:=f3 j w hw;rw[c3]at f6;exact f6 j w1 hw1⟩)
end
section
variable {E:Go.Ev.Env} {K:Pg} {c fid:Nat} {sid:Nat→Nat} {ws:Go.Ev.Own} {h:H} {col:Nat→Nat} {q:Cq}
theorem step_case (e:KOk E) (k:CK K c fid sid ws h col q) {i:Nat} {x:Sx} {co:List Ins} {v:AV} (hco:K.C[q.f]?=some co) (hcl:co.length=(K.τ q.f).length) (hx:(K.τ q.f)[i]?=some x) (hvi:(q.V q.f)[i]?=some (some v)) (hbx:x.h≤100000∧x.d≤100000∧x.tr.length≤100000) (hbt:2*uv (q.V q.f)+q.ts.length<1000000) (hus:q.us.length<1000000) (hmu:q.f∈q.us) (hlen:(K.τ q.f).length≤100000) {N:Nat} (hin:co[i]?=some ⟨13,↑N⟩) (hf:cM x.tr+1≤x.h) (ht:(K.τ q.f)[N]?=some ⟨x.h-1,x.d,x.tr⟩) (hn:(K.τ q.f)[i+1]?=some ⟨x.h-1,x.d+2,x.tr⟩):StepR K c fid sid ws h col q (evL E 59 [.ptr (some (c,0)),.int .i64 ↑i] h):=by
 have hty:=e.ty
 have hpl:=e.pl
 have hg:=k.g
 have hff:=k.ff
 have hi:i<(K.τ q.f).length:=aI hx
 have hpa:(K.C.map cN)[q.f]?=some (cN co):=by simp[hco]
 have hcg:∀ hh:q.f<K.C.length,K.C[q.f]'hh=co:=fun hh=>by rw[List.getElem?_eq_getElem hh]at hco;exact Option.some.inj hco
 have hia:(co.map fR)[i]?=some (fR ⟨13,↑N⟩):=by simp[hin]
 have hrow:=k.rows q.f hff
 have hra:=fW K sid hff
 have hcb:=k.cc.2
 have hsb:=(k.cs q.f hff).2
 have nc0:c≠h.nx:=by omega
 have nc1:c≠h.nx+1:=by omega
 have nc2:c≠h.nx+1+1:=by omega
 have ns0:sid q.f≠h.nx:=by omega
 have ns1:sid q.f≠h.nx+1:=by omega
 have ns2:sid q.f≠h.nx+1+1:=by omega
 have n01:h.nx≠h.nx+1:=by omega
 have n02:h.nx≠h.nx+1+1:=by omega
 have n12:h.nx+1≠h.nx+1+1:=by omega
 have hlc:=eB (k.rl q.f hff)
 have hle:i*4+4≤(cellsOf (K.τ q.f) (q.V q.f)).length:=by rw[hlc];omega
 have hget:=eK hx hvi
 simp only[cellS]at hget
 have sv:=k.vals q.f i v x hff hvi hx
 have hfrm:=k.frm hmu
 have hfr:=k.fr
 have ncf:=k.ne_cf
 have nf0:fid≠h.nx:=by have:=k.cf.2;omega
 have nf1:fid≠h.nx+1:=by have:=k.cf.2;omega
 have nf2:fid≠h.nx+1+1:=by have:=k.cf.2;omega
 have hil:=cA K.S
 obtain⟨i1,hi1⟩:∃ j,j=i+1:=⟨_,rfl⟩
 have hwi:wr .i64 (↑i+1)=↑i1:=wrn (by rw[hi1];simp) (by omega)
 have kt:∀ h,evL E 95 [.int .i64 13] h=some (.tup [.int .i64 1,.int .i64 0],h):=fun h=>takes_run e 13 (by simp[dO]) h
 obtain⟨d1,hd1⟩:∃ d,d=x.d+2:=⟨_,rfl⟩
 have hwd:wr .i64 (↑x.d+2)=↑d1:=wrn (by rw[hd1];simp) (by omega)
 obtain⟨a,ha⟩:∃ a,a+1=x.h:=⟨x.h-1,by omega⟩
 obtain⟨b,hb⟩:∃ b,b=a+0:=⟨_,rfl⟩
 have hbz:a=b:=by omega
 subst hbz
 have hw1:wr .i64 (↑x.h-1)=↑a:=wrn (by rw[←ha];simp) (by omega)
 have hw2:wr .i64 ↑a=↑a:=wrn rfl (by omega)
 have hlt:ltI ↑a ↑(cM x.tr)=false:=dZ (by omega)
 obtain⟨hA,hhA⟩:∃ g:H,g=⟨((((((h.t.set h.nx (.cells [.bool false,.int .i64 0,.int .i64 0,.sl .full []])).set h.nx (.cells [.bool true,.int .i64 ↑x.h,.int .i64 ↑x.d,v])).set (h.nx+1) (.cells [.int .i64 0,.int .i64 0])).set (h.nx+1) (.cells [.int .i64 13,.int .i64 ↑N])).set (h.nx+1+1) (.cells [.bool false,.int .i64 0,.int .i64 0,.sl .full []])).set (h.nx+1+1) (.cells [.bool false,.int .i64 ↑a,.int .i64 ↑x.d,v])),h.nx+1+1+1⟩:=⟨_,rfl⟩
 have GA:Gr h hA:=by
  rw[hhA]
  exact⟨by simp only;omega,fun j hj=>(T.aD _ _ (by omega)).trans ((T.aD _ _ (by omega)).trans ((T.aD _ _ (by omega)).trans ((T.aD _ _ (by omega)).trans ((T.aD _ _ (by omega)).trans (T.aD _ _ (by omega))))))⟩
 have nA:hA.nx=h.nx+1+1+1:=by rw[hhA]
 obtain⟨h2,kf,G2⟩:=floor_run e (sv.gr GA) true ↑x.h ↑x.d (by omega)
 have k2:=k.gr (GA.trans G2)
 have F2:Fx (Mut col) h col h2 col:=Fx.gr (GA.trans G2) _ _
 have n2:h.nx+1+1+1≤h2.nx:=by have:=G2.nx;omega
 have gx:h2.t.get h.nx=some (.cells [.bool true,.int .i64 ↑x.h,.int .i64 ↑x.d,v]):=(G2.keep _ (by omega)).trans (by rw[hhA];simp[T.aA,n02])
 have gi:h2.t.get (h.nx+1)=some (.cells [.int .i64 13,.int .i64 ↑N]):=(G2.keep _ (by omega)).trans (by rw[hhA];simp[T.aA])
 have gy:h2.t.get (h.nx+1+1)=some (.cells [.bool false,.int .i64 ↑a,.int .i64 ↑x.d,v]):=(G2.keep _ (by omega)).trans (by rw[hhA];simp[T.aA])
 have sv2:=sv.gr (GA.trans G2)
 have c0:col h.nx=0:=k.fz _ (Nat.le_refl _)
 have c1:col (h.nx+1)=0:=k.fz _ (by omega)
 have c2:col (h.nx+1+1)=0:=k.fz _ (by omega)
 have vsh:=sv.shape
 have g2c:=k2.g
 have g2f:=k2.fr
 generalize hy:evL E 59 _ _=y
 rw[bE E (e.no 59 (by simp)) (by rw[e.fn];kernel_rfl) body59 _ _ rfl]at hy
 simp only[aC,sub,Tryz.f59]at hy
 obtain⟨h3,col3,q3,k3,K3,F3,a3,b3,c3,d3,e3,f3⟩:=to_run e k2 (i:=N) (x:=⟨a,x.d,x.tr⟩) hco hcl (by rw[ht,←ha,Nat.add_sub_cancel]) (b0:=false) (v:=v) sv2 (by first|omega|(simp;omega)) (by omega)
 have m3:∀ r,r<h2.nx→col r=0→col3 r=0∧h3.t.get r=h2.t.get r:=fun r hr hc=>⟨(F3.keep r hr).1.trans hc,(F3.keep r hr).2 (by rw[Mut,hc];omega)⟩
 have g3y:=(m3 (h.nx+1+1) (by omega) c2).2.trans gy
 have g3x:=(m3 h.nx (by omega) c0).2.trans gx
 have g3i:=(m3 (h.nx+1) (by omega) c1).2.trans gi
 have cy:=(m3 (h.nx+1+1) (by omega) c2).1
 have n3:=F3.nx
 have sv3:=sv2.fx F3 (by intro j hj;rw[Mut,hj];omega)
 have hco3:=hco
 have hcl3:=hcl
 have hn3:=hn
 rw[←c3]at hco3 hcl3 hn3
 have F23:=F2.two F3
 obtain⟨h4,hh4⟩:∃ g:H,g=⟨h3.t.set (h.nx+1+1) (.cells [.bool false,.int .i64 ↑a,.int .i64 ↑d1,v]),h3.nx⟩:=⟨_,rfl⟩
 have k4:CK K c fid sid ws h4 _ _:=hh4▸K3.loc cy _
 have F4:Fx (Mut col) h col h4 _:=hh4▸F23.loc (by omega) _
 have n4:h4.nx=h3.nx:=by rw[hh4]
 have g4y:h4.t.get (h.nx+1+1)=some (.cells [.bool false,.int .i64 ↑a,.int .i64 ↑d1,v]):=by rw[hh4];exact T.bO _ _ _
 obtain⟨h6,col6,q6,k6,K6,F6,a6,b6,c6,d6,e6,f6⟩:=to_run e k4 (i:=i1) (x:=⟨a,d1,x.tr⟩) hco3 hcl3 (by rw[hi1,hn3,hd1,←ha,Nat.add_sub_cancel]) (b0:=false) (v:=v) (sv3.fx (P:=fun j=>j=h.nx+1+1) (by rw[hh4];exact⟨Nat.le_refl _,fun j hj=>⟨rfl,fun hp=>T.aD _ _ hp⟩,fun hz=>hz⟩) (by rintro j hj rfl;omega)) (by first|omega|(simp;omega)) (by omega)
 subst hh4
 subst hhA
 clear sv2 sv sv3
 rcases vsh with rfl|⟨id2,m3,rfl⟩|⟨id2,m3,m4,rfl⟩<;>(simp[EVT,aT,bC,aX,bA,bT,aL,aN,aQ,bX,bF,bW,dE,cD,aV,AV.cells,aG,aZ,val,aH,bN,bP,cP,bG,aU,aO,aM,bI,recheck,H.new,H.put,cT,aY,bB,AV.one,setArgs,bQ,bS,bJ,aR,aP,bK,TYC,TYK,MTK,hty,hpl,isub,hg,hpa,hia,fR,cN,hrow,hra,hi,hget,hle,hwi,hw1,hw2,hlt,kt,kf,gx,gi,gy,g2c,nc0,nc2,n02,bU,g3y,hwd,k3,k6]at hy;exact⟨_,_,_,hy.symm,K6,F4.two F6,c6.trans c3,by simp only[Wq,b6,d6,b3,d3],⟨[],by rw[b6,b3];simp⟩,by rw[c3]at e6;omega,fun j w hw=>by obtain⟨w1,hw1⟩:=f3 j w hw;rw[c3]at f6;exact f6 j w1 hw1⟩)
end
section
variable {E:Go.Ev.Env} {K:Pg} {c fid:Nat} {sid:Nat→Nat} {ws:Go.Ev.Own} {h:H} {col:Nat→Nat} {q:Cq}
theorem step_tri (e:KOk E) (k:CK K c fid sid ws h col q) {i:Nat} {x:Sx} {co:List Ins} {v:AV} (hco:K.C[q.f]?=some co) (hcl:co.length=(K.τ q.f).length) (hx:(K.τ q.f)[i]?=some x) (hvi:(q.V q.f)[i]?=some (some v)) (hbx:x.h≤100000∧x.d≤100000∧x.tr.length≤100000) (hbt:2*uv (q.V q.f)+q.ts.length<1000000) (hus:q.us.length<1000000) (hmu:q.f∈q.us) (hlen:(K.τ q.f).length≤100000) {N:Nat} (hin:co[i]?=some ⟨14,↑N⟩) (hf:cM x.tr+0≤x.h) (ht:(K.τ q.f)[N]?=some ⟨x.h+1,x.d,x.tr⟩) (hn:(K.τ q.f)[i+1]?=some ⟨x.h,x.d,x.tr++[x.h]⟩):StepR K c fid sid ws h col q (evL E 59 [.ptr (some (c,0)),.int .i64 ↑i] h):=by
 have hty:=e.ty
 have hpl:=e.pl
 have hg:=k.g
 have hff:=k.ff
 have hi:i<(K.τ q.f).length:=aI hx
 have hpa:(K.C.map cN)[q.f]?=some (cN co):=by simp[hco]
 have hcg:∀ hh:q.f<K.C.length,K.C[q.f]'hh=co:=fun hh=>by rw[List.getElem?_eq_getElem hh]at hco;exact Option.some.inj hco
 have hia:(co.map fR)[i]?=some (fR ⟨14,↑N⟩):=by simp[hin]
 have hrow:=k.rows q.f hff
 have hra:=fW K sid hff
 have hcb:=k.cc.2
 have hsb:=(k.cs q.f hff).2
 have nc0:c≠h.nx:=by omega
 have nc1:c≠h.nx+1:=by omega
 have nc2:c≠h.nx+1+1:=by omega
 have ns0:sid q.f≠h.nx:=by omega
 have ns1:sid q.f≠h.nx+1:=by omega
 have ns2:sid q.f≠h.nx+1+1:=by omega
 have n01:h.nx≠h.nx+1:=by omega
 have n02:h.nx≠h.nx+1+1:=by omega
 have n12:h.nx+1≠h.nx+1+1:=by omega
 have hlc:=eB (k.rl q.f hff)
 have hle:i*4+4≤(cellsOf (K.τ q.f) (q.V q.f)).length:=by rw[hlc];omega
 have hget:=eK hx hvi
 simp only[cellS]at hget
 have sv:=k.vals q.f i v x hff hvi hx
 have hfrm:=k.frm hmu
 have hfr:=k.fr
 have ncf:=k.ne_cf
 have nf0:fid≠h.nx:=by have:=k.cf.2;omega
 have nf1:fid≠h.nx+1:=by have:=k.cf.2;omega
 have nf2:fid≠h.nx+1+1:=by have:=k.cf.2;omega
 have hil:=cA K.S
 obtain⟨i1,hi1⟩:∃ j,j=i+1:=⟨_,rfl⟩
 have hwi:wr .i64 (↑i+1)=↑i1:=wrn (by rw[hi1];simp) (by omega)
 have kt:∀ h,evL E 95 [.int .i64 14] h=some (.tup [.int .i64 0,.int .i64 0],h):=fun h=>takes_run e 14 (by simp[dO]) h
 obtain⟨x1,hx1⟩:∃ d,d=x.h+1:=⟨_,rfl⟩
 have hwx:wr .i64 (↑x.h+1)=↑x1:=wrn (by rw[hx1];simp) (by omega)
 obtain⟨a,ha⟩:∃ a,a+0=x.h:=⟨x.h-0,by omega⟩
 obtain⟨b,hb⟩:∃ b,b=a+0:=⟨_,rfl⟩
 have haz:a=x.h:=by omega
 subst haz
 have hbz:b=x.h:=by omega
 subst hbz
 have hw1:wr .i64 ↑x.h=↑x.h:=wrn rfl (by omega)
 have hw2:wr .i64 ↑x.h=↑x.h:=wrn rfl (by omega)
 have hlt:ltI ↑x.h ↑(cM x.tr)=false:=dZ (by omega)
 obtain⟨hA,hhA⟩:∃ g:H,g=⟨((((((h.t.set h.nx (.cells [.bool false,.int .i64 0,.int .i64 0,.sl .full []])).set h.nx (.cells [.bool true,.int .i64 ↑x.h,.int .i64 ↑x.d,v])).set (h.nx+1) (.cells [.int .i64 0,.int .i64 0])).set (h.nx+1) (.cells [.int .i64 14,.int .i64 ↑N])).set (h.nx+1+1) (.cells [.bool false,.int .i64 0,.int .i64 0,.sl .full []])).set (h.nx+1+1) (.cells [.bool false,.int .i64 ↑x.h,.int .i64 ↑x.d,v])),h.nx+1+1+1⟩:=⟨_,rfl⟩
 have GA:Gr h hA:=by
  rw[hhA]
  exact⟨by simp only;omega,fun j hj=>(T.aD _ _ (by omega)).trans ((T.aD _ _ (by omega)).trans ((T.aD _ _ (by omega)).trans ((T.aD _ _ (by omega)).trans ((T.aD _ _ (by omega)).trans (T.aD _ _ (by omega))))))⟩
 have nA:hA.nx=h.nx+1+1+1:=by rw[hhA]
 obtain⟨h2,kf,G2⟩:=floor_run e (sv.gr GA) true ↑x.h ↑x.d (by omega)
 have k2:=k.gr (GA.trans G2)
 have F2:Fx (Mut col) h col h2 col:=Fx.gr (GA.trans G2) _ _
 have n2:h.nx+1+1+1≤h2.nx:=by have:=G2.nx;omega
 have gx:h2.t.get h.nx=some (.cells [.bool true,.int .i64 ↑x.h,.int .i64 ↑x.d,v]):=(G2.keep _ (by omega)).trans (by rw[hhA];simp[T.aA,n02])
 have gi:h2.t.get (h.nx+1)=some (.cells [.int .i64 14,.int .i64 ↑N]):=(G2.keep _ (by omega)).trans (by rw[hhA];simp[T.aA])
 have gy:h2.t.get (h.nx+1+1)=some (.cells [.bool false,.int .i64 ↑x.h,.int .i64 ↑x.d,v]):=(G2.keep _ (by omega)).trans (by rw[hhA];simp[T.aA])
 have sv2:=sv.gr (GA.trans G2)
 have c0:col h.nx=0:=k.fz _ (Nat.le_refl _)
 have c1:col (h.nx+1)=0:=k.fz _ (by omega)
 have c2:col (h.nx+1+1)=0:=k.fz _ (by omega)
 have vsh:=sv.shape
 have g2c:=k2.g
 have g2f:=k2.fr
 generalize hy:evL E 59 _ _=y
 rw[bE E (e.no 59 (by simp)) (by rw[e.fn];kernel_rfl) body59 _ _ rfl]at hy
 simp only[aC,sub,Tryz.f59]at hy
 obtain⟨h3,col3,q3,k3,K3,F3,a3,b3,c3,d3,e3,f3⟩:=to_run e k2 (i:=N) (x:=⟨x1,x.d,x.tr⟩) hco hcl (by rw[ht,hx1]) (b0:=false) (v:=v) sv2 (by first|omega|(simp;omega)) (by omega)
 have m3:∀ r,r<h2.nx→col r=0→col3 r=0∧h3.t.get r=h2.t.get r:=fun r hr hc=>⟨(F3.keep r hr).1.trans hc,(F3.keep r hr).2 (by rw[Mut,hc];omega)⟩
 have g3y:=(m3 (h.nx+1+1) (by omega) c2).2.trans gy
 have g3x:=(m3 h.nx (by omega) c0).2.trans gx
 have g3i:=(m3 (h.nx+1) (by omega) c1).2.trans gi
 have cy:=(m3 (h.nx+1+1) (by omega) c2).1
 have n3:=F3.nx
 have sv3:=sv2.fx F3 (by intro j hj;rw[Mut,hj];omega)
 have hco3:=hco
 have hcl3:=hcl
 have hn3:=hn
 rw[←c3]at hco3 hcl3 hn3
 have F23:=F2.two F3
 obtain⟨h5,hh5⟩:∃ g:H,g=⟨h3.t.set h3.nx (.row 1 3 1 [.int .i64 ↑x.h]),h3.nx+1⟩:=⟨_,rfl⟩
 have G5:Gr h3 h5:=hh5▸cC _ _
 have g5:h5.t.get h3.nx=some (.row 1 3 1 [.int .i64 ↑x.h]):=by rw[hh5];exact T.bO _ _ _
 have n5:h5.nx=h3.nx+1:=by rw[hh5]
 obtain⟨v7,h7,v8,h8,col8,k7,k8,s8,F8,f7⟩:=copyApp_sr (sv3.gr G5) (by omega) g5 (by omega)
 have kC:=(K3.gr G5).fxn F8
 have F238:Fx (Mut col) h col h8 col8:=(F23.none (Fx.gr G5 _ _)).none F8
 have n38:h3.nx≤h8.nx:=Nat.le_trans G5.nx F8.nx
 have cy8:col8 (h.nx+1+1)=0:=(F8.keep _ (by omega)).1.trans cy
 have g7x:h7.t.get h.nx=some (.cells [.bool true,.int .i64 ↑x.h,.int .i64 ↑x.d,v]):=(f7 _ (by omega)).trans ((G5.keep _ (by omega)).trans g3x)
 have g8y:h8.t.get (h.nx+1+1)=some (.cells [.bool false,.int .i64 ↑x.h,.int .i64 ↑x.d,v]):=((F8.keep _ (by omega)).2 id).trans ((G5.keep _ (by omega)).trans g3y)
 obtain⟨h4,hh4⟩:∃ g:H,g=⟨h8.t.set (h.nx+1+1) (.cells [.bool false,.int .i64 ↑x.h,.int .i64 ↑x.d,v8]),h8.nx⟩:=⟨_,rfl⟩
 have k4:CK K c fid sid ws h4 _ _:=hh4▸kC.loc cy8 _
 have F4:Fx (Mut col) h col h4 _:=hh4▸F238.loc (by omega) _
 have n4:h4.nx=h8.nx:=by rw[hh4]
 have g4y:h4.t.get (h.nx+1+1)=some (.cells [.bool false,.int .i64 ↑x.h,.int .i64 ↑x.d,v8]):=by rw[hh4];exact T.bO _ _ _
 obtain⟨h6,col6,q6,k6,K6,F6,a6,b6,c6,d6,e6,f6⟩:=to_run e k4 (i:=i1) (x:=⟨x.h,x.d,x.tr++[x.h]⟩) hco3 hcl3 (by rw[hi1,hn3]) (b0:=false) (v:=v8) (s8.fx (P:=fun j=>j=h.nx+1+1) (by rw[hh4];exact⟨Nat.le_refl _,fun j hj=>⟨rfl,fun hp=>T.aD _ _ hp⟩,fun hz=>hz⟩) (by rintro j hj rfl;omega)) (by first|omega|(simp;omega)) (by omega)
 have v8s:=s8.shape
 have n3x:h3.nx≠h.nx:=by omega
 have n3y:h3.nx≠h.nx+1+1:=by omega
 subst hh4
 subst hh5
 subst hhA
 clear sv2 sv sv3 s8
 rcases v8s with rfl|⟨id4,m5,rfl⟩|⟨id4,m5,m6,rfl⟩<;>rcases vsh with rfl|⟨id2,m3,rfl⟩|⟨id2,m3,m4,rfl⟩<;>(simp[EVT,aT,bC,aX,bA,bT,aL,aN,aQ,bX,bF,bW,dE,cD,aV,AV.cells,aG,aZ,val,aH,bN,bP,cP,bG,aU,aO,aM,bY,bI,recheck,H.new,H.put,cT,aY,bB,AV.one,setArgs,bQ,bS,bJ,aR,aP,bK,TYC,TYK,MTK,hty,hpl,isub,hg,hpa,hia,fR,cN,hrow,hra,hi,hget,hle,hwi,hw1,hlt,kt,kf,gx,gi,gy,g2c,nc0,nc2,n02,bU,g3x,g7x,g8y,hwx,k7,k8,k3,k6]at hy;exact⟨_,_,_,hy.symm,K6,F4.two F6,c6.trans c3,by simp only[Wq,b6,d6,b3,d3],⟨[],by rw[b6,b3];simp⟩,by rw[c3]at e6;omega,fun j w hw=>by obtain⟨w1,hw1⟩:=f3 j w hw;rw[c3]at f6;exact f6 j w1 hw1⟩)
end
section
variable {E:Go.Ev.Env} {K:Pg} {c fid:Nat} {sid:Nat→Nat} {ws:Go.Ev.Own} {h:H} {col:Nat→Nat} {q:Cq}
theorem step_untri (e:KOk E) (k:CK K c fid sid ws h col q) {i:Nat} {x:Sx} {co:List Ins} {v:AV} (hco:K.C[q.f]?=some co) (hcl:co.length=(K.τ q.f).length) (hx:(K.τ q.f)[i]?=some x) (hvi:(q.V q.f)[i]?=some (some v)) (hbx:x.h≤100000∧x.d≤100000∧x.tr.length≤100000) (hbt:2*uv (q.V q.f)+q.ts.length<1000000) (hus:q.us.length<1000000) (hmu:q.f∈q.us) (hlen:(K.τ q.f).length≤100000) {N:Int} {l:List Nat} {t0:Nat} (hin:co[i]?=some ⟨15,N⟩) (hf:cM x.tr+0≤x.h) (hl:x.tr=l++[t0]) (hn:(K.τ q.f)[i+1]?=some ⟨x.h,x.d,l⟩):StepR K c fid sid ws h col q (evL E 59 [.ptr (some (c,0)),.int .i64 ↑i] h):=by
 have hty:=e.ty
 have hpl:=e.pl
 have hg:=k.g
 have hff:=k.ff
 have hi:i<(K.τ q.f).length:=aI hx
 have hpa:(K.C.map cN)[q.f]?=some (cN co):=by simp[hco]
 have hcg:∀ hh:q.f<K.C.length,K.C[q.f]'hh=co:=fun hh=>by rw[List.getElem?_eq_getElem hh]at hco;exact Option.some.inj hco
 have hia:(co.map fR)[i]?=some (fR ⟨15,N⟩):=by simp[hin]
 have hrow:=k.rows q.f hff
 have hra:=fW K sid hff
 have hcb:=k.cc.2
 have hsb:=(k.cs q.f hff).2
 have nc0:c≠h.nx:=by omega
 have nc1:c≠h.nx+1:=by omega
 have nc2:c≠h.nx+1+1:=by omega
 have ns0:sid q.f≠h.nx:=by omega
 have ns1:sid q.f≠h.nx+1:=by omega
 have ns2:sid q.f≠h.nx+1+1:=by omega
 have n01:h.nx≠h.nx+1:=by omega
 have n02:h.nx≠h.nx+1+1:=by omega
 have n12:h.nx+1≠h.nx+1+1:=by omega
 have hlc:=eB (k.rl q.f hff)
 have hle:i*4+4≤(cellsOf (K.τ q.f) (q.V q.f)).length:=by rw[hlc];omega
 have hget:=eK hx hvi
 simp only[cellS]at hget
 have sv:=k.vals q.f i v x hff hvi hx
 have hfrm:=k.frm hmu
 have hfr:=k.fr
 have ncf:=k.ne_cf
 have nf0:fid≠h.nx:=by have:=k.cf.2;omega
 have nf1:fid≠h.nx+1:=by have:=k.cf.2;omega
 have nf2:fid≠h.nx+1+1:=by have:=k.cf.2;omega
 have hil:=cA K.S
 obtain⟨i1,hi1⟩:∃ j,j=i+1:=⟨_,rfl⟩
 have hwi:wr .i64 (↑i+1)=↑i1:=wrn (by rw[hi1];simp) (by omega)
 have kt:∀ h,evL E 95 [.int .i64 15] h=some (.tup [.int .i64 0,.int .i64 0],h):=fun h=>takes_run e 15 (by simp[dO]) h
 have hll:l.length≤100000:=by have:=hbx.2.2;rw[hl]at this;simp at this;omega
 obtain⟨a,ha⟩:∃ a,a+0=x.h:=⟨x.h-0,by omega⟩
 obtain⟨b,hb⟩:∃ b,b=a+0:=⟨_,rfl⟩
 have haz:a=x.h:=by omega
 subst haz
 have hbz:b=x.h:=by omega
 subst hbz
 have hw1:wr .i64 ↑x.h=↑x.h:=wrn rfl (by omega)
 have hw2:wr .i64 ↑x.h=↑x.h:=wrn rfl (by omega)
 have hlt:ltI ↑x.h ↑(cM x.tr)=false:=dZ (by omega)
 obtain⟨hA,hhA⟩:∃ g:H,g=⟨((((((h.t.set h.nx (.cells [.bool false,.int .i64 0,.int .i64 0,.sl .full []])).set h.nx (.cells [.bool true,.int .i64 ↑x.h,.int .i64 ↑x.d,v])).set (h.nx+1) (.cells [.int .i64 0,.int .i64 0])).set (h.nx+1) (.cells [.int .i64 15,.int .i64 N])).set (h.nx+1+1) (.cells [.bool false,.int .i64 0,.int .i64 0,.sl .full []])).set (h.nx+1+1) (.cells [.bool false,.int .i64 ↑x.h,.int .i64 ↑x.d,v])),h.nx+1+1+1⟩:=⟨_,rfl⟩
 have GA:Gr h hA:=by
  rw[hhA]
  exact⟨by simp only;omega,fun j hj=>(T.aD _ _ (by omega)).trans ((T.aD _ _ (by omega)).trans ((T.aD _ _ (by omega)).trans ((T.aD _ _ (by omega)).trans ((T.aD _ _ (by omega)).trans (T.aD _ _ (by omega))))))⟩
 have nA:hA.nx=h.nx+1+1+1:=by rw[hhA]
 obtain⟨h2,kf,G2⟩:=floor_run e (sv.gr GA) true ↑x.h ↑x.d (by omega)
 have k2:=k.gr (GA.trans G2)
 have F2:Fx (Mut col) h col h2 col:=Fx.gr (GA.trans G2) _ _
 have n2:h.nx+1+1+1≤h2.nx:=by have:=G2.nx;omega
 have gx:h2.t.get h.nx=some (.cells [.bool true,.int .i64 ↑x.h,.int .i64 ↑x.d,v]):=(G2.keep _ (by omega)).trans (by rw[hhA];simp[T.aA,n02])
 have gi:h2.t.get (h.nx+1)=some (.cells [.int .i64 15,.int .i64 N]):=(G2.keep _ (by omega)).trans (by rw[hhA];simp[T.aA])
 have gy:h2.t.get (h.nx+1+1)=some (.cells [.bool false,.int .i64 ↑x.h,.int .i64 ↑x.d,v]):=(G2.keep _ (by omega)).trans (by rw[hhA];simp[T.aA])
 have sv2:=sv.gr (GA.trans G2)
 have c0:col h.nx=0:=k.fz _ (Nat.le_refl _)
 have c1:col (h.nx+1)=0:=k.fz _ (by omega)
 have c2:col (h.nx+1+1)=0:=k.fz _ (by omega)
 have vsh:=sv.shape
 have g2c:=k2.g
 have g2f:=k2.fr
 generalize hy:evL E 59 _ _=y
 rw[bE E (e.no 59 (by simp)) (by rw[e.fn];kernel_rfl) body59 _ _ rfl]at hy
 simp only[aC,sub,Tryz.f59]at hy
 rw[hl]at sv2
 obtain⟨id9,n9,hv9,hln,s9⟩:=cut_sr sv2
 obtain⟨h4,hh4⟩:∃ g:H,g=⟨h2.t.set (h.nx+1+1) (.cells [.bool false,.int .i64 ↑x.h,.int .i64 ↑x.d,.rv id9 n9 l.length]),h2.nx⟩:=⟨_,rfl⟩
 have k4:CK K c fid sid ws h4 _ _:=hh4▸k2.loc c2 _
 have F4:Fx (Mut col) h col h4 _:=hh4▸F2.loc (by omega) _
 have n4:h4.nx=h2.nx:=by rw[hh4]
 have g4y:h4.t.get (h.nx+1+1)=some (.cells [.bool false,.int .i64 ↑x.h,.int .i64 ↑x.d,.rv id9 n9 l.length]):=by rw[hh4];exact T.bO _ _ _
 obtain⟨h3,col3,q3,k3,K3,F3,a3,b3,c3,d3,e3,f3⟩:=to_run e k4 (i:=i1) (x:=⟨x.h,x.d,l⟩) hco hcl (by rw[hi1,hn]) (b0:=false) (v:=(.rv id9 n9 l.length)) (s9.fx (P:=fun j=>j=h.nx+1+1) (by rw[hh4];exact⟨Nat.le_refl _,fun j hj=>⟨rfl,fun hp=>T.aD _ _ hp⟩,fun hz=>hz⟩) (by rintro j hj rfl;omega)) (by first|omega|(simp;omega)) (by omega)
 have hz1:((↑l.length:Int)+1==0)=false:=by simp;omega
 have hwl:wr .i64 (↑l.length+1-1)=↑l.length:=wrn (by simp) (by have:=hbx.2.2;rw[hl]at this;simp at this;omega)
 have hwl2:wr .i64 ↑l.length=↑l.length:=wrn rfl (by have:=hbx.2.2;rw[hl]at this;simp at this;omega)
 have hne9:l.length≠l.length+1:=by omega
 subst hh4
 subst hhA
 clear sv2 sv s9 vsh
 rcases hv9 with ⟨rfl,rfl⟩|rfl<;>(simp[EVT,aT,bC,aX,bA,bT,aL,aN,aQ,bX,bF,dE,cD,aV,AV.cells,aG,aZ,val,aH,bN,bP,cP,bG,aU,aO,aM,bI,recheck,H.new,H.put,cT,aY,bB,AV.one,setArgs,bQ,bS,bJ,aR,aP,bK,TYC,TYK,MTK,hty,hpl,isub,hg,hpa,hia,fR,cN,hrow,hra,hi,hget,hle,hwi,hw1,hlt,kt,kf,gx,gi,gy,g2c,nc0,nc2,n02,bU,hz1,hwl2,k3]at hy;exact⟨_,_,_,hy.symm,K3,F4.two F3,c3,by simp only[Wq,b3,d3],⟨[],by rw[b3];simp⟩,e3,f3⟩)
end
end Go.Proofs.YtogjplcnmibnlaaGreatDoor.Ck
