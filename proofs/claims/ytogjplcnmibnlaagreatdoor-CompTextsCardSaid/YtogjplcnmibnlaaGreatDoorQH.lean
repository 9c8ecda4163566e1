/- The reference's parser: prod, sum. Written by a program. -/
import Derived.Test.YtogjplcnmibnlaaGreatDoorQE
set_option autoImplicit false
set_option maxRecDepth 100000
set_option maxHeartbeats 8000000
set_option linter.unusedSimpArgs false
set_option linter.unusedVariables false
namespace Go.Proofs.YtogjplcnmibnlaaGreatDoor.Pa
open Go.Ev Go.Ev.Nd Go.Proofs.YtogjplcnmibnlaaGreatDoor.Env
attribute [local simp] bC aX bA bT aL aN aQ bX bF bW dE cD aV AV.cells aG aZ val aH bN bP cP bG eI aU aO aM bY bI recheck H.new H.put cT aY bB AV.one setArgs bQ bS bJ aR aP bK
section
variable {E:Go.Ev.Env} {p:Nat} {o:Go.Ev.Own} {L:List Tk} {m:Nat}
noncomputable def b132_0:Code:=aK Tryz.f132 0
theorem loop132_0 (e:POk E) (wf:WfL L) (pa:P2 E p o L 139 (m+1)) {d:Nat} (hd:d≤40) {r s:Nat} (npr:r≠p) (nps:s≠p) (nrs:r≠s) {g:H} (lor:g.nx≤r) (los:g.nx≤s):∀ (n:Nat) {tm:Tm} {h:H} {σ:Ps} {t:Nd} {w:Go.Ev.Own} {q:List AV} {x:Option (Ex × Tm × H)},cdL E 132 24 (.loop b132_0) tm h=x→mu L σ<n→mu L σ<m+1→St h p o L σ→Lc h r [.str [],.str [],.str [],.int .i64 0,.int .i64 0,.sl .full []]→Lc h s [.str t.op,.str t.name,.str t.arg,.int .i64 t.n,.int .i64 t.at_,.sl w q]→AV.wks 0 q (avs t.kids)→fit t →
  tm.get 0=some (.ptr (some (p,0)))→tm.get 1=some (.int .i64 ↑d)→tm.get 4=some (.ptr (some (r,0)))→tm.get 5=some (.ptr (some (s,0)))→Fr p g h →
  ∃ tm' h' t' w' q' σ',x=some (.ret,tm',h')∧tm'.get 4=some (.ptr (some (r,0)))∧Lc h' r [.str t'.op,.str t'.name,.str t'.arg,.int .i64 t'.n,.int .i64 t'.at_,.sl w' q']∧AV.wks 0 q' (avs t'.kids)∧fit t'∧St h' p o L σ'∧Fr p g h'∧mu L σ'≤mu L σ
 | 0,tm,h,σ,t,w,q,x,hx,hn,_,_,_,_,_,_,_,_,_,_,_=>by omega
 | n+1,tm,h,σ,t,w,q,x,hx,hn,hm,S0,lr0,ls0,hq,hft,u0,u1,u4,us,F0=>by
  have hty:=e.ty
  have hpl:=e.pl
  have hd1:=succ_int d
  have hw:wr .i64 (↑d+1)=↑d+1:=cH (i:=d) (by omega)
  obtain⟨R,hR,hx⟩:=aS hx
  obtain⟨h1,k1,g1⟩:=now_run e S0
  have ok1:=now_ok wf S0
  have mn1:=mu_next wf S0
  have S1:=S0.gr g1
  generalize nowF L _=t1 at k1 ok1 mn1
  simp only[Tk.av]at k1
  have lr_1:=lr0.gr g1
  have ls_1:=ls0.gr g1
  have F1:=F0.gr g1
  obtain⟨h2,b2,σ2,k2,S2,f2,mt2,mf2⟩:=eV e wf S1 [42]
  have lr_2:=lr_1.fr f2 npr
  have ls_2:=ls_1.fr f2 nps
  have F2:=F1.trans f2
  cases b2 with
  | true=>
   have m2:=mt2 rfl
   obtain⟨h3,v3,t3,σ3,k3,⟨w3,q3,rfl,qq3,ft3⟩,S3,f3,m3⟩:=pa _ _ d S2 (by omega) (by omega)
   have lr_3:=lr_2.fr f3 npr
   have ls_3:=ls_2.fr f3 nps
   have F3:=F2.trans f3
   obtain⟨h4,k4,g4⟩:=eZ e [109,117,108] t1.a .full [.agg [.str t.op,.str t.name,.str t.arg,.int .i64 t.n,.int .i64 t.at_,.sl w q],.agg [.str t3.op,.str t3.name,.str t3.arg,.int .i64 t3.n,.int .i64 t3.at_,.sl w3 q3]] h3
   have S4:=S3.gr g4
   have lr_4:=lr_3.gr g4
   have ls_4:=ls_3.gr g4
   have F4:=F3.gr g4
   obtain⟨h5,hh5⟩:∃ g:H,g=⟨h4.t.set (s) (.cells [.str [109,117,108],.str [],.str [],.int .i64 0,.int .i64 t1.a,.sl .full [.agg [.str t.op,.str t.name,.str t.arg,.int .i64 t.n,.int .i64 t.at_,.sl w q],.agg [.str t3.op,.str t3.name,.str t3.arg,.int .i64 t3.n,.int .i64 t3.at_,.sl w3 q3]]]),h4.nx⟩:=⟨_,rfl⟩
   have S5:St h5 p o L _:=hh5▸dB S4 nps
   have F5:Fr p _ h5:=hh5▸dC F4 los
   have lr_5:Lc h5 (r) [.str [],.str [],.str [],.int .i64 0,.int .i64 0,.sl .full []]:=hh5▸lc_other lr_4 nrs
   have ls_5:Lc h5 (s) [.str [109,117,108],.str [],.str [],.int .i64 0,.int .i64 t1.a,.sl .full [.agg [.str t.op,.str t.name,.str t.arg,.int .i64 t.n,.int .i64 t.at_,.sl w q],.agg [.str t3.op,.str t3.name,.str t3.arg,.int .i64 t3.n,.int .i64 t3.at_,.sl w3 q3]]]:=hh5▸lc_same ls_4
   subst hh5
   simp[b132_0,aK,Tryz.f132,loops,lp,u0,u1,u4,us,EVT,TYC,TYQ,MTQ,hty,hpl,bytesOf,k1,k2,k3,k4,lr_2.g,ls_2.g,ls_3.g,ls_4.g]at hx
   rw[hR]at hx
   obtain⟨tm2,h2,t2,w2,q2,σ2,z1,z2,z3,z4,z5,z6,z7,z8⟩:=loop132_0 e wf pa hd npr nps nrs lor los n hx (t := .mk [109,117,108] [] [] 0 t1.a [t,t3]) (by omega) (by omega) S5 lr_5 ls_5 (wk_2 (dF hq) (dF qq3)) (fit_mk (okl rfl) ok0 ok0 in0 ok1.2.2 (by simp) (fit_2 hft ft3)) (by simp[T.aA,u0]) (by simp[T.aA,u1]) (by simp[T.aA,u4]) (by simp[T.aA,us]) F5
   exact⟨tm2,h2,t2,w2,q2,σ2,z1,z2,z3,z4,z5,z6,z7,by omega⟩
  | false=>
   have m2:=mf2 rfl
   simp[b132_0,aK,Tryz.f132,loops,lp,u0,u4,us,EVT,TYC,TYQ,hty,bytesOf,k1,k2,lr_2.g,ls_2.g]at hx
   exact⟨_,_,t,w,q,_,hx.symm,by simp[T.aA,u4],⟨by simp[T.aA],lr_2.lt⟩,hq,hft,(dB S2 npr),(dC F2 lor),by omega⟩
theorem body132:Tryz.f132.body=some (.seq (aC Tryz.f132 [0]) (.seq (aC Tryz.f132 [1,0]) (.block 0 (.loop b132_0)))):=rfl
theorem prod_step (e:POk E) (wf:WfL L) (pa:P2 E p o L 139 (m+1)):P2 E p o L 132 (m+1):=by
 intro h σ d S0 m0 hd
 have hty:=e.ty
 have hpl:=e.pl
 have hd1:=succ_int d
 have hw:wr .i64 (↑d+1)=↑d+1:=cH (i:=d) (by omega)
 generalize hy:evL E 132 _ _=y
 rw[bE E (e.no 132 (by simp)) (by rw[e.fn];kernel_rfl) body132 _ _ rfl]at hy
 simp only[aC,sub,Tryz.f132]at hy
 obtain⟨h1,hh1⟩:∃ g:H,g=⟨h.t.set h.nx (.cells [.str [],.str [],.str [],.int .i64 0,.int .i64 0,.sl .full []]),h.nx+1⟩:=⟨_,rfl⟩
 have g1:Gr h h1:=hh1▸cC _ _
 have npr:h.nx≠p:=by have:=S0.lt;omega
 have lor:h.nx≤h.nx:=(Fr.refl p h).nx
 have F1:=(Fr.refl p h).gr g1
 have S1:=S0.gr g1
 have lr_1:Lc h1 h.nx [.str [],.str [],.str [],.int .i64 0,.int .i64 0,.sl .full []]:=hh1▸gD _ _
 obtain⟨h2,v2,t2,σ2,k2,⟨w2,q2,rfl,qq2,ft2⟩,S2,f2,m2⟩:=pa _ _ d S1 (by omega) (by omega)
 have lr_2:=lr_1.fr f2 npr
 have F2:=F1.trans f2
 obtain⟨h3,hh3⟩:∃ g:H,g=⟨(h2.t.set h2.nx (.cells [.str [],.str [],.str [],.int .i64 0,.int .i64 0,.sl .full []])).set h2.nx (.cells [.str t2.op,.str t2.name,.str t2.arg,.int .i64 t2.n,.int .i64 t2.at_,.sl w2 q2]),h2.nx+1⟩:=⟨_,rfl⟩
 have g3:Gr h2 h3:=hh3▸bR _ _ _
 have ner_3:h.nx≠h2.nx:=by have:=lr_2.lt;omega
 have nps:h2.nx≠p:=by have:=S2.lt;omega
 have los:h.nx≤h2.nx:=F2.nx
 have lr_3:=lr_2.gr g3
 have F3:=F2.gr g3
 have S3:=S2.gr g3
 have ls_3:Lc h3 h2.nx [.str t2.op,.str t2.name,.str t2.arg,.int .i64 t2.n,.int .i64 t2.at_,.sl w2 q2]:=hh3▸eH _ _ _
 subst hh1
 subst hh3
 simp[EVT,aT,TYC,TYQ,hty,k2]at hy
 generalize hx:cdL E 132 24 (.loop b132_0) _ _=x at hy
 obtain⟨tm2,h9,t9,w9,q9,σ9,rfl,z2,z3,z4,z5,z6,z7,z8⟩:=loop132_0 e wf pa hd npr nps ner_3 lor los _ hx (Nat.lt_succ_self _) (by omega) S3 lr_3 ls_3 qq2 ft2 (by simp[T.aA]) (by simp[T.aA]) (by simp[T.aA]) (by simp[T.aA]) F3
 have z3g:=z3.g
 simp[z2,z3g]at hy
 exact⟨_,_,t9,_,hy.symm,⟨_,_,rfl,z4,z5⟩,z6,z7,by omega⟩
noncomputable def b129_0:Code:=aK Tryz.f129 0
theorem loop129_0 (e:POk E) (wf:WfL L) (pa:P2 E p o L 132 (m+1)) {d:Nat} (hd:d≤40) {r s:Nat} (npr:r≠p) (nps:s≠p) (nrs:r≠s) {g:H} (lor:g.nx≤r) (los:g.nx≤s):∀ (n:Nat) {tm:Tm} {h:H} {σ:Ps} {t:Nd} {w:Go.Ev.Own} {q:List AV} {x:Option (Ex × Tm × H)},cdL E 129 44 (.loop b129_0) tm h=x→mu L σ<n→mu L σ<m+1→St h p o L σ→Lc h r [.str [],.str [],.str [],.int .i64 0,.int .i64 0,.sl .full []]→Lc h s [.str t.op,.str t.name,.str t.arg,.int .i64 t.n,.int .i64 t.at_,.sl w q]→AV.wks 0 q (avs t.kids)→fit t →
  tm.get 0=some (.ptr (some (p,0)))→tm.get 1=some (.int .i64 ↑d)→tm.get 4=some (.ptr (some (r,0)))→tm.get 5=some (.ptr (some (s,0)))→Fr p g h →
  ∃ tm' h' t' w' q' σ',x=some (.ret,tm',h')∧tm'.get 4=some (.ptr (some (r,0)))∧Lc h' r [.str t'.op,.str t'.name,.str t'.arg,.int .i64 t'.n,.int .i64 t'.at_,.sl w' q']∧AV.wks 0 q' (avs t'.kids)∧fit t'∧St h' p o L σ'∧Fr p g h'∧mu L σ'≤mu L σ
 | 0,tm,h,σ,t,w,q,x,hx,hn,_,_,_,_,_,_,_,_,_,_,_=>by omega
 | n+1,tm,h,σ,t,w,q,x,hx,hn,hm,S0,lr0,ls0,hq,hft,u0,u1,u4,us,F0=>by
  have hty:=e.ty
  have hpl:=e.pl
  have hd1:=succ_int d
  have hw:wr .i64 (↑d+1)=↑d+1:=cH (i:=d) (by omega)
  obtain⟨R,hR,hx⟩:=aS hx
  obtain⟨h1,k1,g1⟩:=now_run e S0
  have ok1:=now_ok wf S0
  have mn1:=mu_next wf S0
  have S1:=S0.gr g1
  generalize nowF L _=t1 at k1 ok1 mn1
  simp only[Tk.av]at k1
  have lr_1:=lr0.gr g1
  have ls_1:=ls0.gr g1
  have F1:=F0.gr g1
  obtain⟨h2,b2,σ2,k2,S2,f2,mt2,mf2⟩:=eV e wf S1 [43]
  have lr_2:=lr_1.fr f2 npr
  have ls_2:=ls_1.fr f2 nps
  have F2:=F1.trans f2
  cases b2 with
  | true=>
   have m2:=mt2 rfl
   obtain⟨h3,v3,t3,σ3,k3,⟨w3,q3,rfl,qq3,ft3⟩,S3,f3,m3⟩:=pa _ _ d S2 (by omega) (by omega)
   have lr_3:=lr_2.fr f3 npr
   have ls_3:=ls_2.fr f3 nps
   have F3:=F2.trans f3
   obtain⟨h4,k4,g4⟩:=eZ e [97,100,100] t1.a .full [.agg [.str t.op,.str t.name,.str t.arg,.int .i64 t.n,.int .i64 t.at_,.sl w q],.agg [.str t3.op,.str t3.name,.str t3.arg,.int .i64 t3.n,.int .i64 t3.at_,.sl w3 q3]] h3
   have S4:=S3.gr g4
   have lr_4:=lr_3.gr g4
   have ls_4:=ls_3.gr g4
   have F4:=F3.gr g4
   obtain⟨h5,hh5⟩:∃ g:H,g=⟨h4.t.set (s) (.cells [.str [97,100,100],.str [],.str [],.int .i64 0,.int .i64 t1.a,.sl .full [.agg [.str t.op,.str t.name,.str t.arg,.int .i64 t.n,.int .i64 t.at_,.sl w q],.agg [.str t3.op,.str t3.name,.str t3.arg,.int .i64 t3.n,.int .i64 t3.at_,.sl w3 q3]]]),h4.nx⟩:=⟨_,rfl⟩
   have S5:St h5 p o L _:=hh5▸dB S4 nps
   have F5:Fr p _ h5:=hh5▸dC F4 los
   have lr_5:Lc h5 (r) [.str [],.str [],.str [],.int .i64 0,.int .i64 0,.sl .full []]:=hh5▸lc_other lr_4 nrs
   have ls_5:Lc h5 (s) [.str [97,100,100],.str [],.str [],.int .i64 0,.int .i64 t1.a,.sl .full [.agg [.str t.op,.str t.name,.str t.arg,.int .i64 t.n,.int .i64 t.at_,.sl w q],.agg [.str t3.op,.str t3.name,.str t3.arg,.int .i64 t3.n,.int .i64 t3.at_,.sl w3 q3]]]:=hh5▸lc_same ls_4
   subst hh5
   simp[b129_0,aK,Tryz.f129,loops,lp,u0,u1,us,EVT,TYC,TYQ,MTQ,hty,hpl,bytesOf,k1,k2,k3,k4,ls_2.g,ls_3.g,ls_4.g]at hx
   rw[hR]at hx
   obtain⟨tm2,h2,t2,w2,q2,σ2,z1,z2,z3,z4,z5,z6,z7,z8⟩:=loop129_0 e wf pa hd npr nps nrs lor los n hx (t := .mk [97,100,100] [] [] 0 t1.a [t,t3]) (by omega) (by omega) S5 lr_5 ls_5 (wk_2 (dF hq) (dF qq3)) (fit_mk (okl rfl) ok0 ok0 in0 ok1.2.2 (by simp) (fit_2 hft ft3)) (by simp[T.aA,u0]) (by simp[T.aA,u1]) (by simp[T.aA,u4]) (by simp[T.aA,us]) F5
   exact⟨tm2,h2,t2,w2,q2,σ2,z1,z2,z3,z4,z5,z6,z7,by omega⟩
  | false=>
   have m2:=mf2 rfl
   obtain⟨h6,b6,σ6,k6,S6,f6,mt6,mf6⟩:=eV e wf S2 [45]
   have lr_6:=lr_2.fr f6 npr
   have ls_6:=ls_2.fr f6 nps
   have F6:=F2.trans f6
   cases b6 with
   | true=>
    have m6:=mt6 rfl
    obtain⟨h7,v7,t7,σ7,k7,⟨w7,q7,rfl,qq7,ft7⟩,S7,f7,m7⟩:=pa _ _ d S6 (by omega) (by omega)
    have lr_7:=lr_6.fr f7 npr
    have ls_7:=ls_6.fr f7 nps
    have F7:=F6.trans f7
    obtain⟨h8,k8,g8⟩:=eZ e [115,117,98] t1.a .full [.agg [.str t.op,.str t.name,.str t.arg,.int .i64 t.n,.int .i64 t.at_,.sl w q],.agg [.str t7.op,.str t7.name,.str t7.arg,.int .i64 t7.n,.int .i64 t7.at_,.sl w7 q7]] h7
    have S8:=S7.gr g8
    have lr_8:=lr_7.gr g8
    have ls_8:=ls_7.gr g8
    have F8:=F7.gr g8
    obtain⟨h9,hh9⟩:∃ g:H,g=⟨h8.t.set (s) (.cells [.str [115,117,98],.str [],.str [],.int .i64 0,.int .i64 t1.a,.sl .full [.agg [.str t.op,.str t.name,.str t.arg,.int .i64 t.n,.int .i64 t.at_,.sl w q],.agg [.str t7.op,.str t7.name,.str t7.arg,.int .i64 t7.n,.int .i64 t7.at_,.sl w7 q7]]]),h8.nx⟩:=⟨_,rfl⟩
    have S9:St h9 p o L _:=hh9▸dB S8 nps
    have F9:Fr p _ h9:=hh9▸dC F8 los
    have lr_9:Lc h9 (r) [.str [],.str [],.str [],.int .i64 0,.int .i64 0,.sl .full []]:=hh9▸lc_other lr_8 nrs
    have ls_9:Lc h9 (s) [.str [115,117,98],.str [],.str [],.int .i64 0,.int .i64 t1.a,.sl .full [.agg [.str t.op,.str t.name,.str t.arg,.int .i64 t.n,.int .i64 t.at_,.sl w q],.agg [.str t7.op,.str t7.name,.str t7.arg,.int .i64 t7.n,.int .i64 t7.at_,.sl w7 q7]]]:=hh9▸lc_same ls_8
    subst hh9
    simp[b129_0,aK,Tryz.f129,loops,lp,u0,u1,us,EVT,TYC,TYQ,MTQ,hty,hpl,bytesOf,k1,k2,k6,k7,k8,ls_2.g,ls_6.g,ls_7.g,ls_8.g]at hx
    rw[hR]at hx
    obtain⟨tm2,h2,t2,w2,q2,σ2,z1,z2,z3,z4,z5,z6,z7,z8⟩:=loop129_0 e wf pa hd npr nps nrs lor los n hx (t := .mk [115,117,98] [] [] 0 t1.a [t,t7]) (by omega) (by omega) S9 lr_9 ls_9 (wk_2 (dF hq) (dF qq7)) (fit_mk (okl rfl) ok0 ok0 in0 ok1.2.2 (by simp) (fit_2 hft ft7)) (by simp[T.aA,u0]) (by simp[T.aA,u1]) (by simp[T.aA,u4]) (by simp[T.aA,us]) F9
    exact⟨tm2,h2,t2,w2,q2,σ2,z1,z2,z3,z4,z5,z6,z7,by omega⟩
   | false=>
    have m6:=mf6 rfl
    obtain⟨h10,b10,σ10,k10,S10,f10,mt10,mf10⟩:=eV e wf S6 [94]
    have lr_10:=lr_6.fr f10 npr
    have ls_10:=ls_6.fr f10 nps
    have F10:=F6.trans f10
    cases b10 with
    | true=>
     have m10:=mt10 rfl
     obtain⟨h11,v11,t11,σ11,k11,⟨w11,q11,rfl,qq11,ft11⟩,S11,f11,m11⟩:=pa _ _ d S10 (by omega) (by omega)
     have lr_11:=lr_10.fr f11 npr
     have ls_11:=ls_10.fr f11 nps
     have F11:=F10.trans f11
     obtain⟨h12,k12,g12⟩:=eZ e [99,97,116] t1.a .full [.agg [.str t.op,.str t.name,.str t.arg,.int .i64 t.n,.int .i64 t.at_,.sl w q],.agg [.str t11.op,.str t11.name,.str t11.arg,.int .i64 t11.n,.int .i64 t11.at_,.sl w11 q11]] h11
     have S12:=S11.gr g12
     have lr_12:=lr_11.gr g12
     have ls_12:=ls_11.gr g12
     have F12:=F11.gr g12
     obtain⟨h13,hh13⟩:∃ g:H,g=⟨h12.t.set (s) (.cells [.str [99,97,116],.str [],.str [],.int .i64 0,.int .i64 t1.a,.sl .full [.agg [.str t.op,.str t.name,.str t.arg,.int .i64 t.n,.int .i64 t.at_,.sl w q],.agg [.str t11.op,.str t11.name,.str t11.arg,.int .i64 t11.n,.int .i64 t11.at_,.sl w11 q11]]]),h12.nx⟩:=⟨_,rfl⟩
     have S13:St h13 p o L _:=hh13▸dB S12 nps
     have F13:Fr p _ h13:=hh13▸dC F12 los
     have lr_13:Lc h13 (r) [.str [],.str [],.str [],.int .i64 0,.int .i64 0,.sl .full []]:=hh13▸lc_other lr_12 nrs
     have ls_13:Lc h13 (s) [.str [99,97,116],.str [],.str [],.int .i64 0,.int .i64 t1.a,.sl .full [.agg [.str t.op,.str t.name,.str t.arg,.int .i64 t.n,.int .i64 t.at_,.sl w q],.agg [.str t11.op,.str t11.name,.str t11.arg,.int .i64 t11.n,.int .i64 t11.at_,.sl w11 q11]]]:=hh13▸lc_same ls_12
     subst hh13
     simp[b129_0,aK,Tryz.f129,loops,lp,u0,u1,u4,us,EVT,TYC,TYQ,MTQ,hty,hpl,bytesOf,k1,k2,k6,k10,k11,k12,ls_2.g,ls_6.g,lr_10.g,ls_10.g,ls_11.g,ls_12.g]at hx
     rw[hR]at hx
     obtain⟨tm2,h2,t2,w2,q2,σ2,z1,z2,z3,z4,z5,z6,z7,z8⟩:=loop129_0 e wf pa hd npr nps nrs lor los n hx (t := .mk [99,97,116] [] [] 0 t1.a [t,t11]) (by omega) (by omega) S13 lr_13 ls_13 (wk_2 (dF hq) (dF qq11)) (fit_mk (okl rfl) ok0 ok0 in0 ok1.2.2 (by simp) (fit_2 hft ft11)) (by simp[T.aA,u0]) (by simp[T.aA,u1]) (by simp[T.aA,u4]) (by simp[T.aA,us]) F13
     exact⟨tm2,h2,t2,w2,q2,σ2,z1,z2,z3,z4,z5,z6,z7,by omega⟩
    | false=>
     have m10:=mf10 rfl
     simp[b129_0,aK,Tryz.f129,loops,lp,u0,u1,u4,us,EVT,TYC,TYQ,MTQ,hty,hpl,bytesOf,k1,k2,k6,k10,ls_2.g,ls_6.g,lr_10.g,ls_10.g]at hx
     exact⟨_,_,t,w,q,_,hx.symm,by simp[T.aA,u4],⟨by simp[T.aA],lr_10.lt⟩,hq,hft,(dB S10 npr),(dC F10 lor),by omega⟩
theorem body129:Tryz.f129.body=some (.seq (aC Tryz.f129 [0]) (.seq (aC Tryz.f129 [1,0]) (.block 0 (.loop b129_0)))):=rfl
theorem sum_step (e:POk E) (wf:WfL L) (pa:P2 E p o L 132 (m+1)):P2 E p o L 129 (m+1):=by
 intro h σ d S0 m0 hd
 have hty:=e.ty
 have hpl:=e.pl
 have hd1:=succ_int d
 have hw:wr .i64 (↑d+1)=↑d+1:=cH (i:=d) (by omega)
 generalize hy:evL E 129 _ _=y
 rw[bE E (e.no 129 (by simp)) (by rw[e.fn];kernel_rfl) body129 _ _ rfl]at hy
 simp only[aC,sub,Tryz.f129]at hy
 obtain⟨h1,hh1⟩:∃ g:H,g=⟨h.t.set h.nx (.cells [.str [],.str [],.str [],.int .i64 0,.int .i64 0,.sl .full []]),h.nx+1⟩:=⟨_,rfl⟩
 have g1:Gr h h1:=hh1▸cC _ _
 have npr:h.nx≠p:=by have:=S0.lt;omega
 have lor:h.nx≤h.nx:=(Fr.refl p h).nx
 have F1:=(Fr.refl p h).gr g1
 have S1:=S0.gr g1
 have lr_1:Lc h1 h.nx [.str [],.str [],.str [],.int .i64 0,.int .i64 0,.sl .full []]:=hh1▸gD _ _
 obtain⟨h2,v2,t2,σ2,k2,⟨w2,q2,rfl,qq2,ft2⟩,S2,f2,m2⟩:=pa _ _ d S1 (by omega) (by omega)
 have lr_2:=lr_1.fr f2 npr
 have F2:=F1.trans f2
 obtain⟨h3,hh3⟩:∃ g:H,g=⟨(h2.t.set h2.nx (.cells [.str [],.str [],.str [],.int .i64 0,.int .i64 0,.sl .full []])).set h2.nx (.cells [.str t2.op,.str t2.name,.str t2.arg,.int .i64 t2.n,.int .i64 t2.at_,.sl w2 q2]),h2.nx+1⟩:=⟨_,rfl⟩
 have g3:Gr h2 h3:=hh3▸bR _ _ _
 have ner_3:h.nx≠h2.nx:=by have:=lr_2.lt;omega
 have nps:h2.nx≠p:=by have:=S2.lt;omega
 have los:h.nx≤h2.nx:=F2.nx
 have lr_3:=lr_2.gr g3
 have F3:=F2.gr g3
 have S3:=S2.gr g3
 have ls_3:Lc h3 h2.nx [.str t2.op,.str t2.name,.str t2.arg,.int .i64 t2.n,.int .i64 t2.at_,.sl w2 q2]:=hh3▸eH _ _ _
 subst hh1
 subst hh3
 simp[EVT,aT,TYC,TYQ,hty,k2]at hy
 generalize hx:cdL E 129 44 (.loop b129_0) _ _=x at hy
 obtain⟨tm2,h9,t9,w9,q9,σ9,rfl,z2,z3,z4,z5,z6,z7,z8⟩:=loop129_0 e wf pa hd npr nps ner_3 lor los _ hx (Nat.lt_succ_self _) (by omega) S3 lr_3 ls_3 qq2 ft2 (by simp[T.aA]) (by simp[T.aA]) (by simp[T.aA]) (by simp[T.aA]) F3
 have z3g:=z3.g
 simp[z2,z3g]at hy
 exact⟨_,_,t9,_,hy.symm,⟨_,_,rfl,z4,z5⟩,z6,z7,by omega⟩
end
section
variable {E:Go.Ev.Env} {p:Nat} {o:Go.Ev.Own} {L:List Tk} {m:Nat}
theorem body146:Tryz.f146.body=some (aC Tryz.f146 []):=rfl
theorem atom_step (e:POk E) (wf:WfL L) (pa:P2 E p o L 146 m) (pr:P3 E p o L 150 m):P2 E p o L 146 (m+1):=by
 intro h σ d S0 m0 hd
 have hty:=e.ty
 have hpl:=e.pl
 have hd1:=succ_int d
 have hw:wr .i64 (↑d+1)=↑d+1:=cH (i:=d) (by omega)
 generalize hy:evL E 146 _ _=y
 rw[bE E (e.no 146 (by simp)) (by rw[e.fn];kernel_rfl) body146 _ _ rfl]at hy
 simp only[aC,sub,Tryz.f146]at hy
 obtain⟨h1,hh1⟩:∃ g:H,g=⟨h.t.set h.nx (.cells [.str [],.str [],.str [],.int .i64 0,.int .i64 0,.sl .full []]),h.nx+1⟩:=⟨_,rfl⟩
 have g1:Gr h h1:=hh1▸cC _ _
 have npr:h.nx≠p:=by have:=S0.lt;omega
 have lor:h.nx≤h.nx:=(Fr.refl p h).nx
 have F1:=(Fr.refl p h).gr g1
 have S1:=S0.gr g1
 have lr_1:Lc h1 h.nx [.str [],.str [],.str [],.int .i64 0,.int .i64 0,.sl .full []]:=hh1▸gD _ _
 obtain⟨h2,σ2,k2,S2,f2,m2,md⟩:=deep_run e wf S1 d
 have lr_2:=lr_1.fr f2 npr
 have F2:=F1.trans f2
 obtain⟨h3,k3,g3⟩:=now_run e S2
 have ok3:=now_ok wf S2
 have mn3:=mu_next wf S2
 have S3:=S2.gr g3
 generalize nowF L _=t3 at k3 ok3 mn3
 simp only[Tk.av]at k3
 have lr_3:=lr_2.gr g3
 have F3:=F2.gr g3
 obtain⟨h4,hh4⟩:∃ g:H,g=⟨(h3.t.set h3.nx (.cells [.int .i64 0,.str [],.int .i64 0,.int .i64 0])).set h3.nx (.cells [.int .i64 t3.k,.str t3.s,.int .i64 t3.n,.int .i64 t3.a]),h3.nx+1⟩:=⟨_,rfl⟩
 have g4:Gr h3 h4:=hh4▸bR _ _ _
 have ner_4:h.nx≠h3.nx:=by have:=lr_3.lt;omega
 have nps:h3.nx≠p:=by have:=S3.lt;omega
 have los:h.nx≤h3.nx:=F3.nx
 have lr_4:=lr_3.gr g4
 have F4:=F3.gr g4
 have S4:=S3.gr g4
 have ls_4:Lc h4 h3.nx [.int .i64 t3.k,.str t3.s,.int .i64 t3.n,.int .i64 t3.a]:=hh4▸eH _ _ _
 cases c5:aE t3.k 2 with
 | true=>
  obtain⟨mm,mi,mw⟩:=mn3 (fun hh=>by rw[hh]at c5;exact absurd c5 (by decide))
  subst hh1
  subst hh4
  simp[EVT,aT,TYC,TYQ,MTQ,hty,hpl,bytesOf,k2,k3,c5,lr_4.g,ls_4.g,npr,nps,Ne.symm nps,mw,S3.g]at hy
  exact⟨_,_,(.mk [105,110,116] [] [] (t3.n) (t3.a) []),_,hy.symm,nv_mk (wk_0) (okl rfl) ok0 ok0 ok3.2.1 ok3.2.2 (by simp) (fit_0),(dB (st_put S4 mi) npr),(dC (fr_put F4) lor),by omega⟩
 | false=>
  cases c7:aE t3.k 3 with
  | true=>
   obtain⟨mm,mi,mw⟩:=mn3 (fun hh=>by rw[hh]at c7;exact absurd c7 (by decide))
   subst hh1
   subst hh4
   simp[EVT,aT,TYC,TYQ,MTQ,hty,hpl,bytesOf,k2,k3,c5,c7,lr_4.g,ls_4.g,npr,nps,Ne.symm nps,mw,S3.g]at hy
   exact⟨_,_,(.mk [115,116,114] t3.s [] (0) (t3.a) []),_,hy.symm,nv_mk (wk_0) (okl rfl) ok3.1 ok0 in0 ok3.2.2 (by simp) (fit_0),(dB (st_put S4 mi) npr),(dC (fr_put F4) lor),by omega⟩
  | false=>
   cases c9:aE t3.k 1 with
   | true=>
    obtain⟨mm,mi,mw⟩:=mn3 (fun hh=>by rw[hh]at c9;exact absurd c9 (by decide))
    subst hh1
    subst hh4
    simp[EVT,aT,TYC,TYQ,MTQ,hty,hpl,bytesOf,k2,k3,c5,c7,c9,lr_4.g,ls_4.g,npr,nps,Ne.symm nps,mw,S3.g]at hy
    exact⟨_,_,(.mk [118,97,114] t3.s [] (0) (t3.a) []),_,hy.symm,nv_mk (wk_0) (okl rfl) ok3.1 ok0 in0 ok3.2.2 (by simp) (fit_0),(dB (st_put S4 mi) npr),(dC (fr_put F4) lor),by omega⟩
   | false=>
    obtain⟨h11,b11,σ11,k11,S11,f11,mt11,mf11⟩:=eV e wf S4 [116,114,117,101]
    have lr_11:=lr_4.fr f11 npr
    have ls_11:=ls_4.fr f11 nps
    have F11:=F4.trans f11
    cases b11 with
    | true=>
     have m11:=mt11 rfl
     subst hh1
     subst hh4
     simp[EVT,aT,TYC,TYQ,MTQ,hty,hpl,bytesOf,k2,k3,c5,c7,c9,k11,ls_4.g,lr_11.g,ls_11.g,Ne.symm nps]at hy
     exact⟨_,_,(.mk [98,111,111,108] [] [] (1) (t3.a) []),_,hy.symm,nv_mk (wk_0) (okl rfl) ok0 ok0 in1 ok3.2.2 (by simp) (fit_0),(dB S11 npr),(dC F11 lor),by omega⟩
    | false=>
     have m11:=mf11 rfl
     obtain⟨h12,b12,σ12,k12,S12,f12,mt12,mf12⟩:=eV e wf S11 [102,97,108,115,101]
     have lr_12:=lr_11.fr f12 npr
     have ls_12:=ls_11.fr f12 nps
     have F12:=F11.trans f12
     cases b12 with
     | true=>
      have m12:=mt12 rfl
      subst hh1
      subst hh4
      simp[EVT,aT,TYC,TYQ,MTQ,hty,hpl,bytesOf,k2,k3,c5,c7,c9,k11,k12,ls_4.g,lr_11.g,ls_11.g,lr_12.g,ls_12.g,Ne.symm nps]at hy
      exact⟨_,_,(.mk [98,111,111,108] [] [] (0) (t3.a) []),_,hy.symm,nv_mk (wk_0) (okl rfl) ok0 ok0 in0 ok3.2.2 (by simp) (fit_0),(dB S12 npr),(dC F12 lor),by omega⟩
     | false=>
      have m12:=mf12 rfl
      obtain⟨h13,b13,σ13,k13,S13,f13,mt13,mf13⟩:=eV e wf S12 [33]
      have lr_13:=lr_12.fr f13 npr
      have ls_13:=ls_12.fr f13 nps
      have F13:=F12.trans f13
      cases b13 with
      | true=>
       have m13:=mt13 rfl
       obtain⟨h14,v14,t14,σ14,k14,⟨w14,q14,rfl,qq14,ft14⟩,S14,f14,m14⟩:=pa _ _ (d+1) S13 (by omega) (by omega)
       rw[hd1]at k14
       have lr_14:=lr_13.fr f14 npr
       have ls_14:=ls_13.fr f14 nps
       have F14:=F13.trans f14
       obtain⟨h15,k15,g15⟩:=eZ e [103,101,116] t3.a .full [.agg [.str t14.op,.str t14.name,.str t14.arg,.int .i64 t14.n,.int .i64 t14.at_,.sl w14 q14]] h14
       have S15:=S14.gr g15
       have lr_15:=lr_14.gr g15
       have ls_15:=ls_14.gr g15
       have F15:=F14.gr g15
       subst hh1
       subst hh4
       simp[EVT,aT,TYC,TYQ,MTQ,hty,hpl,hw,bytesOf,k2,k3,c5,c7,c9,k11,k12,k13,k14,k15,ls_4.g,lr_11.g,ls_11.g,lr_12.g,ls_12.g,ls_13.g,ls_14.g,lr_15.g,Ne.symm nps]at hy
       exact⟨_,_,(.mk [103,101,116] [] [] (0) (t3.a) [t14]),_,hy.symm,nv_mk (wk_1 (dF qq14)) (okl rfl) ok0 ok0 in0 ok3.2.2 (by simp) (fit_1 ft14),(dB S15 npr),(dC F15 lor),by omega⟩
      | false=>
       have m13:=mf13 rfl
       obtain⟨h16,b16,σ16,k16,S16,f16,mt16,mf16⟩:=eV e wf S13 [91]
       have lr_16:=lr_13.fr f16 npr
       have ls_16:=ls_13.fr f16 nps
       have F16:=F13.trans f16
       cases b16 with
       | true=>
        have m16:=mt16 rfl
        obtain⟨h17,σ17,k17,S17,f17,m17⟩:=fH e wf S16 [93]
        have lr_17:=lr_16.fr f17 npr
        have ls_17:=ls_16.fr f17 nps
        have F17:=F16.trans f17
        subst hh1
        subst hh4
        simp[EVT,aT,TYC,TYQ,MTQ,hty,hpl,hw,bytesOf,k2,k3,c5,c7,c9,k11,k12,k13,k16,k17,ls_4.g,lr_11.g,ls_11.g,lr_12.g,ls_12.g,ls_13.g,lr_17.g,ls_17.g,Ne.symm nps]at hy
        exact⟨_,_,(.mk [110,105,108] [] [] (0) (t3.a) []),_,hy.symm,nv_mk (wk_0) (okl rfl) ok0 ok0 in0 ok3.2.2 (by simp) (fit_0),(dB S17 npr),(dC F17 lor),by omega⟩
       | false=>
        have m16:=mf16 rfl
        obtain⟨h18,b18,σ18,k18,S18,f18,mt18,mf18⟩:=eV e wf S16 [40]
        have lr_18:=lr_16.fr f18 npr
        have ls_18:=ls_16.fr f18 nps
        have F18:=F16.trans f18
        cases b18 with
        | true=>
         have m18:=mt18 rfl
         obtain⟨h19,v19,t19,σ19,k19,⟨w19,q19,rfl,qq19,ft19⟩,S19,f19,m19⟩:=pr _ _ d t3.a S18 (by omega) (by omega) ok3.2.2
         have lr_19:=lr_18.fr f19 npr
         have ls_19:=ls_18.fr f19 nps
         have F19:=F18.trans f19
         subst hh1
         subst hh4
         simp[EVT,aT,TYC,TYQ,MTQ,hty,hpl,hw,bytesOf,k2,k3,c5,c7,c9,k11,k12,k13,k16,k18,k19,ls_4.g,lr_11.g,ls_11.g,lr_12.g,ls_12.g,ls_13.g,ls_18.g,lr_19.g,Ne.symm nps]at hy
         exact⟨_,_,t19,_,hy.symm,⟨_,_,rfl,qq19,ft19⟩,(dB S19 npr),(dC F19 lor),by omega⟩
        | false=>
         have m18:=mf18 rfl
         obtain⟨h20,σ20,k20,S20,f20,m20⟩:=fail_run e wf S18 2 rfl
         have lr_20:=lr_18.fr f20 npr
         have ls_20:=ls_18.fr f20 nps
         have F20:=F18.trans f20
         subst hh1
         subst hh4
         simp[EVT,aT,TYC,TYQ,MTQ,hty,hpl,hw,bytesOf,k2,k3,c5,c7,c9,k11,k12,k13,k16,k18,k20,ls_4.g,lr_11.g,ls_11.g,lr_12.g,ls_12.g,ls_13.g,ls_18.g,lr_20.g,Ne.symm nps]at hy
         exact⟨_,_,(.mk [] [] [] (0) (0) []),_,hy.symm,nv_mk (wk_0) (okl rfl) ok0 ok0 in0 in0 (by simp) (fit_0),(dB S20 npr),(dC F20 lor),by omega⟩
theorem body150:Tryz.f150.body=some (aC Tryz.f150 []):=rfl
theorem round_step (e:POk E) (wf:WfL L) (pe:P2 E p o L 28 m):P3 E p o L 150 m:=by
 intro h σ d a S0 m0 hd ha
 have hty:=e.ty
 have hpl:=e.pl
 have hd1:=succ_int d
 have hw:wr .i64 (↑d+1)=↑d+1:=cH (i:=d) (by omega)
 generalize hy:evL E 150 _ _=y
 rw[bE E (e.no 150 (by simp)) (by rw[e.fn];kernel_rfl) body150 _ _ rfl]at hy
 simp only[aC,sub,Tryz.f150]at hy
 obtain⟨h1,hh1⟩:∃ g:H,g=⟨h.t.set h.nx (.cells [.str [],.str [],.str [],.int .i64 0,.int .i64 0,.sl .full []]),h.nx+1⟩:=⟨_,rfl⟩
 have g1:Gr h h1:=hh1▸cC _ _
 have npr:h.nx≠p:=by have:=S0.lt;omega
 have lor:h.nx≤h.nx:=(Fr.refl p h).nx
 have F1:=(Fr.refl p h).gr g1
 have S1:=S0.gr g1
 have lr_1:Lc h1 h.nx [.str [],.str [],.str [],.int .i64 0,.int .i64 0,.sl .full []]:=hh1▸gD _ _
 obtain⟨h2,b2,σ2,k2,S2,f2,mt2,mf2⟩:=eV e wf S1 [41]
 have lr_2:=lr_1.fr f2 npr
 have F2:=F1.trans f2
 cases b2 with
 | true=>
  have m2:=mt2 rfl
  subst hh1
  simp[EVT,aT,TYC,TYQ,hty,bytesOf,k2,lr_2.g]at hy
  exact⟨_,_,(.mk [117,110,105,116] [] [] (0) (a) []),_,hy.symm,nv_mk (wk_0) (okl rfl) ok0 ok0 in0 ha (by simp) (fit_0),(dB S2 npr),(dC F2 lor),by omega⟩
 | false=>
  have m2:=mf2 rfl
  obtain⟨h3,v3,t3,σ3,k3,⟨w3,q3,rfl,qq3,ft3⟩,S3,f3,m3⟩:=pe _ _ (d+1) S2 (by omega) (by omega)
  rw[hd1]at k3
  have lr_3:=lr_2.fr f3 npr
  have F3:=F2.trans f3
  obtain⟨h4,hh4⟩:∃ g:H,g=⟨(h3.t.set h3.nx (.cells [.str [],.str [],.str [],.int .i64 0,.int .i64 0,.sl .full []])).set h3.nx (.cells [.str t3.op,.str t3.name,.str t3.arg,.int .i64 t3.n,.int .i64 t3.at_,.sl w3 q3]),h3.nx+1⟩:=⟨_,rfl⟩
  have g4:Gr h3 h4:=hh4▸bR _ _ _
  have ner_4:h.nx≠h3.nx:=by have:=lr_3.lt;omega
  have nps:h3.nx≠p:=by have:=S3.lt;omega
  have los:h.nx≤h3.nx:=F3.nx
  have lr_4:=lr_3.gr g4
  have F4:=F3.gr g4
  have S4:=S3.gr g4
  have ls_4:Lc h4 h3.nx [.str t3.op,.str t3.name,.str t3.arg,.int .i64 t3.n,.int .i64 t3.at_,.sl w3 q3]:=hh4▸eH _ _ _
  obtain⟨h5,b5,σ5,k5,S5,f5,mt5,mf5⟩:=eV e wf S4 [44]
  have lr_5:=lr_4.fr f5 npr
  have ls_5:=ls_4.fr f5 nps
  have F5:=F4.trans f5
  cases b5 with
  | true=>
   have m5:=mt5 rfl
   obtain⟨h6,v6,t6,σ6,k6,⟨w6,q6,rfl,qq6,ft6⟩,S6,f6,m6⟩:=pe _ _ (d+1) S5 (by omega) (by omega)
   rw[hd1]at k6
   have lr_6:=lr_5.fr f6 npr
   have ls_6:=ls_5.fr f6 nps
   have F6:=F5.trans f6
   obtain⟨h7,k7,g7⟩:=eZ e [112,97,105,114] a .full [.agg [.str t3.op,.str t3.name,.str t3.arg,.int .i64 t3.n,.int .i64 t3.at_,.sl w3 q3],.agg [.str t6.op,.str t6.name,.str t6.arg,.int .i64 t6.n,.int .i64 t6.at_,.sl w6 q6]] h6
   have S7:=S6.gr g7
   have lr_7:=lr_6.gr g7
   have ls_7:=ls_6.gr g7
   have F7:=F6.gr g7
   obtain⟨h8,hh8⟩:∃ g:H,g=⟨h7.t.set (h3.nx) (.cells [.str [112,97,105,114],.str [],.str [],.int .i64 0,.int .i64 a,.sl .full [.agg [.str t3.op,.str t3.name,.str t3.arg,.int .i64 t3.n,.int .i64 t3.at_,.sl w3 q3],.agg [.str t6.op,.str t6.name,.str t6.arg,.int .i64 t6.n,.int .i64 t6.at_,.sl w6 q6]]]),h7.nx⟩:=⟨_,rfl⟩
   have S8:St h8 p o L _:=hh8▸dB S7 nps
   have F8:Fr p _ h8:=hh8▸dC F7 los
   have lr_8:Lc h8 (h.nx) [.str [],.str [],.str [],.int .i64 0,.int .i64 0,.sl .full []]:=hh8▸lc_other lr_7 ner_4
   have ls_8:Lc h8 (h3.nx) [.str [112,97,105,114],.str [],.str [],.int .i64 0,.int .i64 a,.sl .full [.agg [.str t3.op,.str t3.name,.str t3.arg,.int .i64 t3.n,.int .i64 t3.at_,.sl w3 q3],.agg [.str t6.op,.str t6.name,.str t6.arg,.int .i64 t6.n,.int .i64 t6.at_,.sl w6 q6]]]:=hh8▸lc_same ls_7
   obtain⟨h9,σ9,k9,S9,f9,m9⟩:=fH e wf S8 [41]
   have lr_9:=lr_8.fr f9 npr
   have ls_9:=ls_8.fr f9 nps
   have F9:=F8.trans f9
   subst hh1
   subst hh4
   subst hh8
   simp[EVT,aT,TYC,TYQ,MTQ,hty,hpl,hw,bytesOf,k2,k3,k5,k6,k7,k9,lr_2.g,ls_5.g,ls_6.g,ls_7.g,lr_9.g,ls_9.g]at hy
   exact⟨_,_,(.mk [112,97,105,114] [] [] (0) (a) [t3,t6]),_,hy.symm,nv_mk (wk_2 (dF qq3) (dF qq6)) (okl rfl) ok0 ok0 in0 ha (by simp) (fit_2 ft3 ft6),(dB S9 npr),(dC F9 lor),by omega⟩
  | false=>
   have m5:=mf5 rfl
   obtain⟨h10,σ10,k10,S10,f10,m10⟩:=fH e wf S5 [41]
   have lr_10:=lr_5.fr f10 npr
   have ls_10:=ls_5.fr f10 nps
   have F10:=F5.trans f10
   subst hh1
   subst hh4
   simp[EVT,aT,TYC,TYQ,MTQ,hty,hpl,hw,bytesOf,k2,k3,k5,k10,lr_2.g,ls_5.g,lr_10.g,ls_10.g]at hy
   exact⟨_,_,t3,_,hy.symm,⟨_,_,rfl,qq3,ft3⟩,(dB S10 npr),(dC F10 lor),by omega⟩
end
section
variable {E:Go.Ev.Env} {p:Nat} {o:Go.Ev.Own} {L:List Tk} {m:Nat}
theorem body50:Tryz.f50.body=some (aC Tryz.f50 []):=rfl
theorem let_step (e:POk E) (wf:WfL L) (pe:P2 E p o L 28 m):P3 E p o L 50 m:=by
 intro h σ d a S0 m0 hd ha
 have hty:=e.ty
 have hpl:=e.pl
 have hd1:=succ_int d
 have hw:wr .i64 (↑d+1)=↑d+1:=cH (i:=d) (by omega)
 generalize hy:evL E 50 _ _=y
 rw[bE E (e.no 50 (by simp)) (by rw[e.fn];kernel_rfl) body50 _ _ rfl]at hy
 simp only[aC,sub,Tryz.f50]at hy
 obtain⟨h1,hh1⟩:∃ g:H,g=⟨h.t.set h.nx (.cells [.str [],.str [],.str [],.int .i64 0,.int .i64 0,.sl .full []]),h.nx+1⟩:=⟨_,rfl⟩
 have g1:Gr h h1:=hh1▸cC _ _
 have npr:h.nx≠p:=by have:=S0.lt;omega
 have lor:h.nx≤h.nx:=(Fr.refl p h).nx
 have F1:=(Fr.refl p h).gr g1
 have S1:=S0.gr g1
 have lr_1:Lc h1 h.nx [.str [],.str [],.str [],.int .i64 0,.int .i64 0,.sl .full []]:=hh1▸gD _ _
 obtain⟨h2,b2,σ2,k2,S2,f2,mt2,mf2⟩:=eV e wf S1 [114,101,99]
 have lr_2:=lr_1.fr f2 npr
 have F2:=F1.trans f2
 cases b2 with
 | true=>
  have m2:=mt2 rfl
  obtain⟨h3,s3,σ3,k3,ok3,S3,f3,m3⟩:=name_run e wf S2
  have lr_3:=lr_2.fr f3 npr
  have F3:=F2.trans f3
  obtain⟨h4,s4,σ4,k4,ok4,S4,f4,m4⟩:=name_run e wf S3
  have lr_4:=lr_3.fr f4 npr
  have F4:=F3.trans f4
  obtain⟨h5,σ5,k5,S5,f5,m5⟩:=fH e wf S4 [61]
  have lr_5:=lr_4.fr f5 npr
  have F5:=F4.trans f5
  obtain⟨h6,v6,t6,σ6,k6,⟨w6,q6,rfl,qq6,ft6⟩,S6,f6,m6⟩:=pe _ _ (d+1) S5 (by omega) (by omega)
  rw[hd1]at k6
  have lr_6:=lr_5.fr f6 npr
  have F6:=F5.trans f6
  obtain⟨h7,hh7⟩:∃ g:H,g=⟨(h6.t.set h6.nx (.cells [.str [],.str [],.str [],.int .i64 0,.int .i64 0,.sl .full []])).set h6.nx (.cells [.str t6.op,.str t6.name,.str t6.arg,.int .i64 t6.n,.int .i64 t6.at_,.sl w6 q6]),h6.nx+1⟩:=⟨_,rfl⟩
  have g7:Gr h6 h7:=hh7▸bR _ _ _
  have ner_7:h.nx≠h6.nx:=by have:=lr_6.lt;omega
  have nps:h6.nx≠p:=by have:=S6.lt;omega
  have los:h.nx≤h6.nx:=F6.nx
  have lr_7:=lr_6.gr g7
  have F7:=F6.gr g7
  have S7:=S6.gr g7
  have ls_7:Lc h7 h6.nx [.str t6.op,.str t6.name,.str t6.arg,.int .i64 t6.n,.int .i64 t6.at_,.sl w6 q6]:=hh7▸eH _ _ _
  obtain⟨h8,σ8,k8,S8,f8,m8⟩:=fH e wf S7 [105,110]
  have lr_8:=lr_7.fr f8 npr
  have ls_8:=ls_7.fr f8 nps
  have F8:=F7.trans f8
  obtain⟨h9,hh9⟩:∃ g:H,g=⟨h8.t.set h8.nx (.cells [.str [],.str [],.str [],.int .i64 0,.int .i64 0,.sl .full []]),h8.nx+1⟩:=⟨_,rfl⟩
  have g9:Gr h8 h9:=hh9▸cC _ _
  have ner_9:h.nx≠h8.nx:=by have:=lr_8.lt;omega
  have nes_9:h6.nx≠h8.nx:=by have:=ls_8.lt;omega
  have npu:h8.nx≠p:=by have:=S8.lt;omega
  have lou:h.nx≤h8.nx:=F8.nx
  have lr_9:=lr_8.gr g9
  have ls_9:=ls_8.gr g9
  have F9:=F8.gr g9
  have S9:=S8.gr g9
  have lu_9:Lc h9 h8.nx [.str [],.str [],.str [],.int .i64 0,.int .i64 0,.sl .full []]:=hh9▸gD _ _
  obtain⟨h10,v10,t10,σ10,k10,⟨w10,q10,rfl,qq10,ft10⟩,S10,f10,m10⟩:=pe _ _ (d+1) S9 (by omega) (by omega)
  rw[hd1]at k10
  have lr_10:=lr_9.fr f10 npr
  have ls_10:=ls_9.fr f10 nps
  have lu_10:=lu_9.fr f10 npu
  have F10:=F9.trans f10
  obtain⟨h11,k11,g11⟩:=eZ e [114,101,99] a .full [.agg [.str t6.op,.str t6.name,.str t6.arg,.int .i64 t6.n,.int .i64 t6.at_,.sl w6 q6],.agg [.str t10.op,.str t10.name,.str t10.arg,.int .i64 t10.n,.int .i64 t10.at_,.sl w10 q10]] h10
  have S11:=S10.gr g11
  have lr_11:=lr_10.gr g11
  have ls_11:=ls_10.gr g11
  have lu_11:=lu_10.gr g11
  have F11:=F10.gr g11
  subst hh1
  subst hh7
  subst hh9
  simp[EVT,aT,TYC,TYQ,MTQ,hty,hpl,hw,bytesOf,k2,k3,k4,k5,k6,k8,k10,k11,ls_8.g,ls_10.g,lr_11.g,lu_11.g,ner_9,aB]at hy
  exact⟨_,_,(.mk [114,101,99] s3 s4 (0) (a) [t6,t10]),_,hy.symm,nv_mk (wk_2 (dF qq6) (dF qq10)) (okl rfl) ok3 ok4 in0 ha (by simp) (fit_2 ft6 ft10),(dB (dB (dB (dB S11 npu) npu) npu) npr),(dC (dC (dC (dC F11 lou) lou) lou) lor),by omega⟩
 | false=>
  have m2:=mf2 rfl
  obtain⟨h12,s12,σ12,k12,ok12,S12,f12,m12⟩:=name_run e wf S2
  have lr_12:=lr_2.fr f12 npr
  have F12:=F2.trans f12
  obtain⟨h13,σ13,k13,S13,f13,m13⟩:=fH e wf S12 [61]
  have lr_13:=lr_12.fr f13 npr
  have F13:=F12.trans f13
  obtain⟨h14,v14,t14,σ14,k14,⟨w14,q14,rfl,qq14,ft14⟩,S14,f14,m14⟩:=pe _ _ (d+1) S13 (by omega) (by omega)
  rw[hd1]at k14
  have lr_14:=lr_13.fr f14 npr
  have F14:=F13.trans f14
  obtain⟨h15,hh15⟩:∃ g:H,g=⟨(h14.t.set h14.nx (.cells [.str [],.str [],.str [],.int .i64 0,.int .i64 0,.sl .full []])).set h14.nx (.cells [.str t14.op,.str t14.name,.str t14.arg,.int .i64 t14.n,.int .i64 t14.at_,.sl w14 q14]),h14.nx+1⟩:=⟨_,rfl⟩
  have g15:Gr h14 h15:=hh15▸bR _ _ _
  have ner_15:h.nx≠h14.nx:=by have:=lr_14.lt;omega
  have nps:h14.nx≠p:=by have:=S14.lt;omega
  have los:h.nx≤h14.nx:=F14.nx
  have lr_15:=lr_14.gr g15
  have F15:=F14.gr g15
  have S15:=S14.gr g15
  have ls_15:Lc h15 h14.nx [.str t14.op,.str t14.name,.str t14.arg,.int .i64 t14.n,.int .i64 t14.at_,.sl w14 q14]:=hh15▸eH _ _ _
  obtain⟨h16,σ16,k16,S16,f16,m16⟩:=fH e wf S15 [105,110]
  have lr_16:=lr_15.fr f16 npr
  have ls_16:=ls_15.fr f16 nps
  have F16:=F15.trans f16
  obtain⟨h17,hh17⟩:∃ g:H,g=⟨h16.t.set h16.nx (.cells [.str [],.str [],.str [],.int .i64 0,.int .i64 0,.sl .full []]),h16.nx+1⟩:=⟨_,rfl⟩
  have g17:Gr h16 h17:=hh17▸cC _ _
  have ner_17:h.nx≠h16.nx:=by have:=lr_16.lt;omega
  have nes_17:h14.nx≠h16.nx:=by have:=ls_16.lt;omega
  have npu:h16.nx≠p:=by have:=S16.lt;omega
  have lou:h.nx≤h16.nx:=F16.nx
  have lr_17:=lr_16.gr g17
  have ls_17:=ls_16.gr g17
  have F17:=F16.gr g17
  have S17:=S16.gr g17
  have lu_17:Lc h17 h16.nx [.str [],.str [],.str [],.int .i64 0,.int .i64 0,.sl .full []]:=hh17▸gD _ _
  obtain⟨h18,v18,t18,σ18,k18,⟨w18,q18,rfl,qq18,ft18⟩,S18,f18,m18⟩:=pe _ _ (d+1) S17 (by omega) (by omega)
  rw[hd1]at k18
  have lr_18:=lr_17.fr f18 npr
  have ls_18:=ls_17.fr f18 nps
  have lu_18:=lu_17.fr f18 npu
  have F18:=F17.trans f18
  obtain⟨h19,k19,g19⟩:=eZ e [108,101,116] a .full [.agg [.str t14.op,.str t14.name,.str t14.arg,.int .i64 t14.n,.int .i64 t14.at_,.sl w14 q14],.agg [.str t18.op,.str t18.name,.str t18.arg,.int .i64 t18.n,.int .i64 t18.at_,.sl w18 q18]] h18
  have S19:=S18.gr g19
  have lr_19:=lr_18.gr g19
  have ls_19:=ls_18.gr g19
  have lu_19:=lu_18.gr g19
  have F19:=F18.gr g19
  subst hh1
  subst hh15
  subst hh17
  simp[EVT,aT,TYC,TYQ,MTQ,hty,hpl,hw,bytesOf,k2,k12,k13,k14,k16,k18,k19,ls_16.g,ls_18.g,lr_19.g,lu_19.g,ner_17,aB]at hy
  exact⟨_,_,(.mk [108,101,116] s12 [] (0) (a) [t14,t18]),_,hy.symm,nv_mk (wk_2 (dF qq14) (dF qq18)) (okl rfl) ok12 ok0 in0 ha (by simp) (fit_2 ft14 ft18),(dB (dB (dB (dB S19 npu) npu) npu) npr),(dC (dC (dC (dC F19 lou) lou) lou) lor),by omega⟩
theorem body54:Tryz.f54.body=some (aC Tryz.f54 []):=rfl
theorem match_step (e:POk E) (wf:WfL L) (pe:P2 E p o L 28 m):P3 E p o L 54 m:=by
 intro h σ d a S0 m0 hd ha
 have hty:=e.ty
 have hpl:=e.pl
 have hd1:=succ_int d
 have hw:wr .i64 (↑d+1)=↑d+1:=cH (i:=d) (by omega)
 generalize hy:evL E 54 _ _=y
 rw[bE E (e.no 54 (by simp)) (by rw[e.fn];kernel_rfl) body54 _ _ rfl]at hy
 simp only[aC,sub,Tryz.f54]at hy
 obtain⟨h1,hh1⟩:∃ g:H,g=⟨h.t.set h.nx (.cells [.str [],.str [],.str [],.int .i64 0,.int .i64 0,.sl .full []]),h.nx+1⟩:=⟨_,rfl⟩
 have g1:Gr h h1:=hh1▸cC _ _
 have npr:h.nx≠p:=by have:=S0.lt;omega
 have lor:h.nx≤h.nx:=(Fr.refl p h).nx
 have F1:=(Fr.refl p h).gr g1
 have S1:=S0.gr g1
 have lr_1:Lc h1 h.nx [.str [],.str [],.str [],.int .i64 0,.int .i64 0,.sl .full []]:=hh1▸gD _ _
 obtain⟨h2,v2,t2,σ2,k2,⟨w2,q2,rfl,qq2,ft2⟩,S2,f2,m2⟩:=pe _ _ (d+1) S1 (by omega) (by omega)
 rw[hd1]at k2
 have lr_2:=lr_1.fr f2 npr
 have F2:=F1.trans f2
 obtain⟨h3,hh3⟩:∃ g:H,g=⟨(h2.t.set h2.nx (.cells [.str [],.str [],.str [],.int .i64 0,.int .i64 0,.sl .full []])).set h2.nx (.cells [.str t2.op,.str t2.name,.str t2.arg,.int .i64 t2.n,.int .i64 t2.at_,.sl w2 q2]),h2.nx+1⟩:=⟨_,rfl⟩
 have g3:Gr h2 h3:=hh3▸bR _ _ _
 have ner_3:h.nx≠h2.nx:=by have:=lr_2.lt;omega
 have nps:h2.nx≠p:=by have:=S2.lt;omega
 have los:h.nx≤h2.nx:=F2.nx
 have lr_3:=lr_2.gr g3
 have F3:=F2.gr g3
 have S3:=S2.gr g3
 have ls_3:Lc h3 h2.nx [.str t2.op,.str t2.name,.str t2.arg,.int .i64 t2.n,.int .i64 t2.at_,.sl w2 q2]:=hh3▸eH _ _ _
 obtain⟨h4,σ4,k4,S4,f4,m4⟩:=fH e wf S3 [119,105,116,104]
 have lr_4:=lr_3.fr f4 npr
 have ls_4:=ls_3.fr f4 nps
 have F4:=F3.trans f4
 obtain⟨h5,σ5,k5,S5,f5,m5⟩:=fH e wf S4 [91]
 have lr_5:=lr_4.fr f5 npr
 have ls_5:=ls_4.fr f5 nps
 have F5:=F4.trans f5
 obtain⟨h6,σ6,k6,S6,f6,m6⟩:=fH e wf S5 [93]
 have lr_6:=lr_5.fr f6 npr
 have ls_6:=ls_5.fr f6 nps
 have F6:=F5.trans f6
 obtain⟨h7,σ7,k7,S7,f7,m7⟩:=fH e wf S6 [45,62]
 have lr_7:=lr_6.fr f7 npr
 have ls_7:=ls_6.fr f7 nps
 have F7:=F6.trans f7
 obtain⟨h8,v8,t8,σ8,k8,⟨w8,q8,rfl,qq8,ft8⟩,S8,f8,m8⟩:=pe _ _ (d+1) S7 (by omega) (by omega)
 rw[hd1]at k8
 have lr_8:=lr_7.fr f8 npr
 have ls_8:=ls_7.fr f8 nps
 have F8:=F7.trans f8
 obtain⟨h9,hh9⟩:∃ g:H,g=⟨(h8.t.set h8.nx (.cells [.str [],.str [],.str [],.int .i64 0,.int .i64 0,.sl .full []])).set h8.nx (.cells [.str t8.op,.str t8.name,.str t8.arg,.int .i64 t8.n,.int .i64 t8.at_,.sl w8 q8]),h8.nx+1⟩:=⟨_,rfl⟩
 have g9:Gr h8 h9:=hh9▸bR _ _ _
 have ner_9:h.nx≠h8.nx:=by have:=lr_8.lt;omega
 have nes_9:h2.nx≠h8.nx:=by have:=ls_8.lt;omega
 have npv:h8.nx≠p:=by have:=S8.lt;omega
 have lov:h.nx≤h8.nx:=F8.nx
 have lr_9:=lr_8.gr g9
 have ls_9:=ls_8.gr g9
 have F9:=F8.gr g9
 have S9:=S8.gr g9
 have lv_9:Lc h9 h8.nx [.str t8.op,.str t8.name,.str t8.arg,.int .i64 t8.n,.int .i64 t8.at_,.sl w8 q8]:=hh9▸eH _ _ _
 obtain⟨h10,σ10,k10,S10,f10,m10⟩:=fH e wf S9 [124]
 have lr_10:=lr_9.fr f10 npr
 have ls_10:=ls_9.fr f10 nps
 have lv_10:=lv_9.fr f10 npv
 have F10:=F9.trans f10
 obtain⟨h11,s11,σ11,k11,ok11,S11,f11,m11⟩:=name_run e wf S10
 have lr_11:=lr_10.fr f11 npr
 have ls_11:=ls_10.fr f11 nps
 have lv_11:=lv_10.fr f11 npv
 have F11:=F10.trans f11
 obtain⟨h12,σ12,k12,S12,f12,m12⟩:=fH e wf S11 [58,58]
 have lr_12:=lr_11.fr f12 npr
 have ls_12:=ls_11.fr f12 nps
 have lv_12:=lv_11.fr f12 npv
 have F12:=F11.trans f12
 obtain⟨h13,s13,σ13,k13,ok13,S13,f13,m13⟩:=name_run e wf S12
 have lr_13:=lr_12.fr f13 npr
 have ls_13:=ls_12.fr f13 nps
 have lv_13:=lv_12.fr f13 npv
 have F13:=F12.trans f13
 obtain⟨h14,σ14,k14,S14,f14,m14⟩:=fH e wf S13 [45,62]
 have lr_14:=lr_13.fr f14 npr
 have ls_14:=ls_13.fr f14 nps
 have lv_14:=lv_13.fr f14 npv
 have F14:=F13.trans f14
 obtain⟨h15,hh15⟩:∃ g:H,g=⟨h14.t.set h14.nx (.cells [.str [],.str [],.str [],.int .i64 0,.int .i64 0,.sl .full []]),h14.nx+1⟩:=⟨_,rfl⟩
 have g15:Gr h14 h15:=hh15▸cC _ _
 have ner_15:h.nx≠h14.nx:=by have:=lr_14.lt;omega
 have nes_15:h2.nx≠h14.nx:=by have:=ls_14.lt;omega
 have nev_15:h8.nx≠h14.nx:=by have:=lv_14.lt;omega
 have npu:h14.nx≠p:=by have:=S14.lt;omega
 have lou:h.nx≤h14.nx:=F14.nx
 have lr_15:=lr_14.gr g15
 have ls_15:=ls_14.gr g15
 have lv_15:=lv_14.gr g15
 have F15:=F14.gr g15
 have S15:=S14.gr g15
 have lu_15:Lc h15 h14.nx [.str [],.str [],.str [],.int .i64 0,.int .i64 0,.sl .full []]:=hh15▸gD _ _
 obtain⟨h16,v16,t16,σ16,k16,⟨w16,q16,rfl,qq16,ft16⟩,S16,f16,m16⟩:=pe _ _ (d+1) S15 (by omega) (by omega)
 rw[hd1]at k16
 have lr_16:=lr_15.fr f16 npr
 have ls_16:=ls_15.fr f16 nps
 have lv_16:=lv_15.fr f16 npv
 have lu_16:=lu_15.fr f16 npu
 have F16:=F15.trans f16
 obtain⟨h17,k17,g17⟩:=eZ e [109,97,116,99,104] a .full [.agg [.str t2.op,.str t2.name,.str t2.arg,.int .i64 t2.n,.int .i64 t2.at_,.sl w2 q2],.agg [.str t8.op,.str t8.name,.str t8.arg,.int .i64 t8.n,.int .i64 t8.at_,.sl w8 q8],.agg [.str t16.op,.str t16.name,.str t16.arg,.int .i64 t16.n,.int .i64 t16.at_,.sl w16 q16]] h16
 have S17:=S16.gr g17
 have lr_17:=lr_16.gr g17
 have ls_17:=ls_16.gr g17
 have lv_17:=lv_16.gr g17
 have lu_17:=lu_16.gr g17
 have F17:=F16.gr g17
 subst hh1
 subst hh3
 subst hh9
 subst hh15
 simp[EVT,aT,TYC,TYQ,MTQ,hty,hpl,hw,bytesOf,k2,k4,k5,k6,k7,k8,k10,k11,k12,k13,k14,k16,k17,ls_14.g,lv_14.g,ls_16.g,lv_16.g,lr_17.g,lu_17.g,ner_15]at hy
 exact⟨_,_,(.mk [109,97,116,99,104] s11 s13 (0) (a) [t2,t8,t16]),_,hy.symm,nv_mk (wk_3 (dF qq2) (dF qq8) (dF qq16)) (okl rfl) ok11 ok13 in0 ha (by simp) (fit_3 ft2 ft8 ft16),(dB (dB (dB (dB S17 npu) npu) npu) npr),(dC (dC (dC (dC F17 lou) lou) lou) lor),by omega⟩
end
end Go.Proofs.YtogjplcnmibnlaaGreatDoor.Pa
