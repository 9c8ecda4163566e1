/- The reference's parser: expr. Written by a program. -/
import Derived.Test.YtogjplcnmibnlaaGreatDoorQH
set_option autoImplicit false
set_option maxRecDepth 100000
set_option maxHeartbeats 8000000
set_option linter.unusedSimpArgs false
set_option linter.unusedVariables false
namespace Go.Proofs.YtogjplcnmibnlaaGreatDoor.Pa
open Go.Ev Go.Ev.Nd Go.Proofs.YtogjplcnmibnlaaGreatDoor.Env
attribute [local simp] bC aX bA bT aL aN aQ bX bF bW dE cD aV AV.cells aG aZ val aH bN bP cP bG eI aU aO aM bY bI recheck H.new H.put cT aY bB AV.one setArgs bQ bS bJ aR aP bK
section
variable {E:Go.Ev.Env} {p:Nat} {o:Go.Ev.Own} {L:List Tk} {m:Nat}
theorem body28:Tryz.f28.body=some (aC Tryz.f28 []):=rfl
theorem expr_step (e:POk E) (wf:WfL L) (pe:P2 E p o L 28 m) (pl:P3 E p o L 50 m) (pm:P3 E p o L 54 m) (ps:P2 E p o L 55 (m+1)):P2 E p o L 28 (m+1):=by
 intro h σ d S0 m0 hd
 have hty:=e.ty
 have hpl:=e.pl
 have hd1:=succ_int d
 have hw:wr .i64 (↑d+1)=↑d+1:=cH (i:=d) (by omega)
 generalize hy:evL E 28 _ _=y
 rw[bE E (e.no 28 (by simp)) (by rw[e.fn];kernel_rfl) body28 _ _ rfl]at hy
 simp only[aC,sub,Tryz.f28]at hy
 obtain⟨h1,hh1⟩:∃ g:H,g=⟨h.t.set h.nx (.cells [.str [],.str [],.str [],.int .i64 0,.int .i64 0,.sl .full []]),h.nx+1⟩:=⟨_,rfl⟩
 have g1:Gr h h1:=hh1▸cC _ _
 have npr:h.nx≠p:=by have:=S0.lt;omega
 have lor:h.nx≤h.nx:=(Fr.refl p h).nx
 have F1:=(Fr.refl p h).gr g1
 have S1:=S0.gr g1
 have lr_1:Lc h1 h.nx [.str [],.str [],.str [],.int .i64 0,.int .i64 0,.sl .full []]:=hh1▸gD _ _
 obtain⟨h2,σ2,k2,S2,f2,m2,md⟩:=deep_run e wf S1 d
 have lr_2:=lr_1.fr f2 npr
 have F2:=F1.trans f2
 obtain⟨h3,k3,g3⟩:=now_run e S2
 have ok3:=now_ok wf S2
 have mn3:=mu_next wf S2
 have S3:=S2.gr g3
 generalize nowF L _=t3 at k3 ok3 mn3
 simp only[Tk.av]at k3
 have lr_3:=lr_2.gr g3
 have F3:=F2.gr g3
 obtain⟨h4,b4,σ4,k4,S4,f4,mt4,mf4⟩:=eV e wf S3 [108,101,116]
 have lr_4:=lr_3.fr f4 npr
 have F4:=F3.trans f4
 cases b4 with
 | true=>
  have m4:=mt4 rfl
  obtain⟨h5,v5,t5,σ5,k5,⟨w5,q5,rfl,qq5,ft5⟩,S5,f5,m5⟩:=pl _ _ d t3.a S4 (by omega) (by omega) ok3.2.2
  have lr_5:=lr_4.fr f5 npr
  have F5:=F4.trans f5
  subst hh1
  simp[EVT,aT,TYC,TYQ,MTQ,hty,hpl,bytesOf,k2,k3,k4,k5,lr_5.g]at hy
  exact⟨_,_,t5,_,hy.symm,⟨_,_,rfl,qq5,ft5⟩,(dB S5 npr),(dC F5 lor),by omega⟩
 | false=>
  have m4:=mf4 rfl
  obtain⟨h6,b6,σ6,k6,S6,f6,mt6,mf6⟩:=eV e wf S4 [102,117,110]
  have lr_6:=lr_4.fr f6 npr
  have F6:=F4.trans f6
  cases b6 with
  | true=>
   have m6:=mt6 rfl
   obtain⟨h7,s7,σ7,k7,ok7,S7,f7,m7⟩:=name_run e wf S6
   have lr_7:=lr_6.fr f7 npr
   have F7:=F6.trans f7
   obtain⟨h8,σ8,k8,S8,f8,m8⟩:=fH e wf S7 [45,62]
   have lr_8:=lr_7.fr f8 npr
   have F8:=F7.trans f8
   obtain⟨h9,v9,t9,σ9,k9,⟨w9,q9,rfl,qq9,ft9⟩,S9,f9,m9⟩:=pe _ _ (d+1) S8 (by omega) (by omega)
   rw[hd1]at k9
   have lr_9:=lr_8.fr f9 npr
   have F9:=F8.trans f9
   obtain⟨h10,k10,g10⟩:=eZ e [102,117,110] t3.a .full [.agg [.str t9.op,.str t9.name,.str t9.arg,.int .i64 t9.n,.int .i64 t9.at_,.sl w9 q9]] h9
   have S10:=S9.gr g10
   have lr_10:=lr_9.gr g10
   have F10:=F9.gr g10
   obtain⟨h11,hh11⟩:∃ g:H,g=⟨(h10.t.set h10.nx (.cells [.str [],.str [],.str [],.int .i64 0,.int .i64 0,.sl .full []])).set h10.nx (.cells [.str [102,117,110],.str [],.str [],.int .i64 0,.int .i64 t3.a,.sl .full [.agg [.str t9.op,.str t9.name,.str t9.arg,.int .i64 t9.n,.int .i64 t9.at_,.sl w9 q9]]]),h10.nx+1⟩:=⟨_,rfl⟩
   have g11:Gr h10 h11:=hh11▸bR _ _ _
   have ner_11:h.nx≠h10.nx:=by have:=lr_10.lt;omega
   have npu:h10.nx≠p:=by have:=S10.lt;omega
   have lou:h.nx≤h10.nx:=F10.nx
   have lr_11:=lr_10.gr g11
   have F11:=F10.gr g11
   have S11:=S10.gr g11
   have lu_11:Lc h11 h10.nx [.str [102,117,110],.str [],.str [],.int .i64 0,.int .i64 t3.a,.sl .full [.agg [.str t9.op,.str t9.name,.str t9.arg,.int .i64 t9.n,.int .i64 t9.at_,.sl w9 q9]]]:=hh11▸eH _ _ _
   subst hh1
   subst hh11
   simp[EVT,aT,TYC,TYQ,MTQ,hty,hpl,hw,bytesOf,k2,k3,k4,k6,k7,k8,k9,k10,lr_11.g,lu_11.g,ner_11]at hy
   exact⟨_,_,(.mk [102,117,110] s7 [] (0) (t3.a) [t9]),_,hy.symm,nv_mk (wk_1 (dF qq9)) (okl rfl) ok7 ok0 in0 ok3.2.2 (by simp) (fit_1 ft9),(dB (dB S11 npu) npr),(dC (dC F11 lou) lor),by omega⟩
  | false=>
   have m6:=mf6 rfl
   obtain⟨h12,b12,σ12,k12,S12,f12,mt12,mf12⟩:=eV e wf S6 [105,102]
   have lr_12:=lr_6.fr f12 npr
   have F12:=F6.trans f12
   cases b12 with
   | true=>
    have m12:=mt12 rfl
    obtain⟨h13,v13,t13,σ13,k13,⟨w13,q13,rfl,qq13,ft13⟩,S13,f13,m13⟩:=pe _ _ (d+1) S12 (by omega) (by omega)
    rw[hd1]at k13
    have lr_13:=lr_12.fr f13 npr
    have F13:=F12.trans f13
    obtain⟨h14,hh14⟩:∃ g:H,g=⟨(h13.t.set h13.nx (.cells [.str [],.str [],.str [],.int .i64 0,.int .i64 0,.sl .full []])).set h13.nx (.cells [.str t13.op,.str t13.name,.str t13.arg,.int .i64 t13.n,.int .i64 t13.at_,.sl w13 q13]),h13.nx+1⟩:=⟨_,rfl⟩
    have g14:Gr h13 h14:=hh14▸bR _ _ _
    have ner_14:h.nx≠h13.nx:=by have:=lr_13.lt;omega
    have nps:h13.nx≠p:=by have:=S13.lt;omega
    have los:h.nx≤h13.nx:=F13.nx
    have lr_14:=lr_13.gr g14
    have F14:=F13.gr g14
    have S14:=S13.gr g14
    have ls_14:Lc h14 h13.nx [.str t13.op,.str t13.name,.str t13.arg,.int .i64 t13.n,.int .i64 t13.at_,.sl w13 q13]:=hh14▸eH _ _ _
    obtain⟨h15,σ15,k15,S15,f15,m15⟩:=fH e wf S14 [116,104,101,110]
    have lr_15:=lr_14.fr f15 npr
    have ls_15:=ls_14.fr f15 nps
    have F15:=F14.trans f15
    obtain⟨h16,v16,t16,σ16,k16,⟨w16,q16,rfl,qq16,ft16⟩,S16,f16,m16⟩:=pe _ _ (d+1) S15 (by omega) (by omega)
    rw[hd1]at k16
    have lr_16:=lr_15.fr f16 npr
    have ls_16:=ls_15.fr f16 nps
    have F16:=F15.trans f16
    obtain⟨h17,hh17⟩:∃ g:H,g=⟨(h16.t.set h16.nx (.cells [.str [],.str [],.str [],.int .i64 0,.int .i64 0,.sl .full []])).set h16.nx (.cells [.str t16.op,.str t16.name,.str t16.arg,.int .i64 t16.n,.int .i64 t16.at_,.sl w16 q16]),h16.nx+1⟩:=⟨_,rfl⟩
    have g17:Gr h16 h17:=hh17▸bR _ _ _
    have ner_17:h.nx≠h16.nx:=by have:=lr_16.lt;omega
    have nes_17:h13.nx≠h16.nx:=by have:=ls_16.lt;omega
    have npv:h16.nx≠p:=by have:=S16.lt;omega
    have lov:h.nx≤h16.nx:=F16.nx
    have lr_17:=lr_16.gr g17
    have ls_17:=ls_16.gr g17
    have F17:=F16.gr g17
    have S17:=S16.gr g17
    have lv_17:Lc h17 h16.nx [.str t16.op,.str t16.name,.str t16.arg,.int .i64 t16.n,.int .i64 t16.at_,.sl w16 q16]:=hh17▸eH _ _ _
    obtain⟨h18,σ18,k18,S18,f18,m18⟩:=fH e wf S17 [101,108,115,101]
    have lr_18:=lr_17.fr f18 npr
    have ls_18:=ls_17.fr f18 nps
    have lv_18:=lv_17.fr f18 npv
    have F18:=F17.trans f18
    obtain⟨h19,v19,t19,σ19,k19,⟨w19,q19,rfl,qq19,ft19⟩,S19,f19,m19⟩:=pe _ _ (d+1) S18 (by omega) (by omega)
    rw[hd1]at k19
    have lr_19:=lr_18.fr f19 npr
    have ls_19:=ls_18.fr f19 nps
    have lv_19:=lv_18.fr f19 npv
    have F19:=F18.trans f19
    obtain⟨h20,k20,g20⟩:=eZ e [105,102] t3.a .full [.agg [.str t13.op,.str t13.name,.str t13.arg,.int .i64 t13.n,.int .i64 t13.at_,.sl w13 q13],.agg [.str t16.op,.str t16.name,.str t16.arg,.int .i64 t16.n,.int .i64 t16.at_,.sl w16 q16],.agg [.str t19.op,.str t19.name,.str t19.arg,.int .i64 t19.n,.int .i64 t19.at_,.sl w19 q19]] h19
    have S20:=S19.gr g20
    have lr_20:=lr_19.gr g20
    have ls_20:=ls_19.gr g20
    have lv_20:=lv_19.gr g20
    have F20:=F19.gr g20
    subst hh1
    subst hh14
    subst hh17
    simp[EVT,aT,TYC,TYQ,MTQ,hty,hpl,hw,bytesOf,k2,k3,k4,k6,k12,k13,k15,k16,k18,k19,k20,ls_18.g,lv_18.g,ls_19.g,lv_19.g,lr_20.g]at hy
    exact⟨_,_,(.mk [105,102] [] [] (0) (t3.a) [t13,t16,t19]),_,hy.symm,nv_mk (wk_3 (dF qq13) (dF qq16) (dF qq19)) (okl rfl) ok0 ok0 in0 ok3.2.2 (by simp) (fit_3 ft13 ft16 ft19),(dB S20 npr),(dC F20 lor),by omega⟩
   | false=>
    have m12:=mf12 rfl
    obtain⟨h21,b21,σ21,k21,S21,f21,mt21,mf21⟩:=eV e wf S12 [109,97,116,99,104]
    have lr_21:=lr_12.fr f21 npr
    have F21:=F12.trans f21
    cases b21 with
    | true=>
     have m21:=mt21 rfl
     obtain⟨h22,v22,t22,σ22,k22,⟨w22,q22,rfl,qq22,ft22⟩,S22,f22,m22⟩:=pm _ _ d t3.a S21 (by omega) (by omega) ok3.2.2
     have lr_22:=lr_21.fr f22 npr
     have F22:=F21.trans f22
     subst hh1
     simp[EVT,aT,TYC,TYQ,MTQ,hty,hpl,hw,bytesOf,k2,k3,k4,k6,k12,k21,k22,lr_22.g]at hy
     exact⟨_,_,t22,_,hy.symm,⟨_,_,rfl,qq22,ft22⟩,(dB S22 npr),(dC F22 lor),by omega⟩
    | false=>
     have m21:=mf21 rfl
     obtain⟨h23,b23,σ23,k23,S23,f23,mt23,mf23⟩:=eV e wf S21 [116,114,121]
     have lr_23:=lr_21.fr f23 npr
     have F23:=F21.trans f23
     cases b23 with
     | true=>
      have m23:=mt23 rfl
      obtain⟨h24,v24,t24,σ24,k24,⟨w24,q24,rfl,qq24,ft24⟩,S24,f24,m24⟩:=pe _ _ (d+1) S23 (by omega) (by omega)
      rw[hd1]at k24
      have lr_24:=lr_23.fr f24 npr
      have F24:=F23.trans f24
      obtain⟨h25,hh25⟩:∃ g:H,g=⟨(h24.t.set h24.nx (.cells [.str [],.str [],.str [],.int .i64 0,.int .i64 0,.sl .full []])).set h24.nx (.cells [.str t24.op,.str t24.name,.str t24.arg,.int .i64 t24.n,.int .i64 t24.at_,.sl w24 q24]),h24.nx+1⟩:=⟨_,rfl⟩
      have g25:Gr h24 h25:=hh25▸bR _ _ _
      have ner_25:h.nx≠h24.nx:=by have:=lr_24.lt;omega
      have nps:h24.nx≠p:=by have:=S24.lt;omega
      have los:h.nx≤h24.nx:=F24.nx
      have lr_25:=lr_24.gr g25
      have F25:=F24.gr g25
      have S25:=S24.gr g25
      have ls_25:Lc h25 h24.nx [.str t24.op,.str t24.name,.str t24.arg,.int .i64 t24.n,.int .i64 t24.at_,.sl w24 q24]:=hh25▸eH _ _ _
      obtain⟨h26,σ26,k26,S26,f26,m26⟩:=fH e wf S25 [119,105,116,104]
      have lr_26:=lr_25.fr f26 npr
      have ls_26:=ls_25.fr f26 nps
      have F26:=F25.trans f26
      obtain⟨h27,s27,σ27,k27,ok27,S27,f27,m27⟩:=name_run e wf S26
      have lr_27:=lr_26.fr f27 npr
      have ls_27:=ls_26.fr f27 nps
      have F27:=F26.trans f27
      obtain⟨h28,σ28,k28,S28,f28,m28⟩:=fH e wf S27 [45,62]
      have lr_28:=lr_27.fr f28 npr
      have ls_28:=ls_27.fr f28 nps
      have F28:=F27.trans f28
      obtain⟨h29,hh29⟩:∃ g:H,g=⟨h28.t.set h28.nx (.cells [.str [],.str [],.str [],.int .i64 0,.int .i64 0,.sl .full []]),h28.nx+1⟩:=⟨_,rfl⟩
      have g29:Gr h28 h29:=hh29▸cC _ _
      have ner_29:h.nx≠h28.nx:=by have:=lr_28.lt;omega
      have nes_29:h24.nx≠h28.nx:=by have:=ls_28.lt;omega
      have npu:h28.nx≠p:=by have:=S28.lt;omega
      have lou:h.nx≤h28.nx:=F28.nx
      have lr_29:=lr_28.gr g29
      have ls_29:=ls_28.gr g29
      have F29:=F28.gr g29
      have S29:=S28.gr g29
      have lu_29:Lc h29 h28.nx [.str [],.str [],.str [],.int .i64 0,.int .i64 0,.sl .full []]:=hh29▸gD _ _
      obtain⟨h30,v30,t30,σ30,k30,⟨w30,q30,rfl,qq30,ft30⟩,S30,f30,m30⟩:=pe _ _ (d+1) S29 (by omega) (by omega)
      rw[hd1]at k30
      have lr_30:=lr_29.fr f30 npr
      have ls_30:=ls_29.fr f30 nps
      have lu_30:=lu_29.fr f30 npu
      have F30:=F29.trans f30
      obtain⟨h31,k31,g31⟩:=eZ e [116,114,121] t3.a .full [.agg [.str t24.op,.str t24.name,.str t24.arg,.int .i64 t24.n,.int .i64 t24.at_,.sl w24 q24],.agg [.str t30.op,.str t30.name,.str t30.arg,.int .i64 t30.n,.int .i64 t30.at_,.sl w30 q30]] h30
      have S31:=S30.gr g31
      have lr_31:=lr_30.gr g31
      have ls_31:=ls_30.gr g31
      have lu_31:=lu_30.gr g31
      have F31:=F30.gr g31
      subst hh1
      subst hh25
      subst hh29
      simp[EVT,aT,TYC,TYQ,MTQ,hty,hpl,hw,bytesOf,k2,k3,k4,k6,k12,k21,k23,k24,k26,k27,k28,k30,k31,ls_28.g,ls_30.g,lr_31.g,lu_31.g,ner_29]at hy
      exact⟨_,_,(.mk [116,114,121] s27 [] (0) (t3.a) [t24,t30]),_,hy.symm,nv_mk (wk_2 (dF qq24) (dF qq30)) (okl rfl) ok27 ok0 in0 ok3.2.2 (by simp) (fit_2 ft24 ft30),(dB (dB (dB S31 npu) npu) npr),(dC (dC (dC F31 lou) lou) lor),by omega⟩
     | false=>
      have m23:=mf23 rfl
      obtain⟨h32,v32,t32,σ32,k32,⟨w32,q32,rfl,qq32,ft32⟩,S32,f32,m32⟩:=ps _ _ d S23 (by omega) (by omega)
      have lr_32:=lr_23.fr f32 npr
      have F32:=F23.trans f32
      obtain⟨h33,hh33⟩:∃ g:H,g=⟨(h32.t.set h32.nx (.cells [.str [],.str [],.str [],.int .i64 0,.int .i64 0,.sl .full []])).set h32.nx (.cells [.str t32.op,.str t32.name,.str t32.arg,.int .i64 t32.n,.int .i64 t32.at_,.sl w32 q32]),h32.nx+1⟩:=⟨_,rfl⟩
      have g33:Gr h32 h33:=hh33▸bR _ _ _
      have ner_33:h.nx≠h32.nx:=by have:=lr_32.lt;omega
      have nps:h32.nx≠p:=by have:=S32.lt;omega
      have los:h.nx≤h32.nx:=F32.nx
      have lr_33:=lr_32.gr g33
      have F33:=F32.gr g33
      have S33:=S32.gr g33
      have ls_33:Lc h33 h32.nx [.str t32.op,.str t32.name,.str t32.arg,.int .i64 t32.n,.int .i64 t32.at_,.sl w32 q32]:=hh33▸eH _ _ _
      obtain⟨h34,k34,g34⟩:=now_run e S33
      have ok34:=now_ok wf S33
      have mn34:=mu_next wf S33
      have S34:=S33.gr g34
      generalize nowF L _=t34 at k34 ok34 mn34
      simp only[Tk.av]at k34
      have lr_34:=lr_33.gr g34
      have ls_34:=ls_33.gr g34
      have F34:=F33.gr g34
      obtain⟨h35,b35,σ35,k35,S35,f35,mt35,mf35⟩:=eV e wf S34 [59]
      have lr_35:=lr_34.fr f35 npr
      have ls_35:=ls_34.fr f35 nps
      have F35:=F34.trans f35
      cases b35 with
      | true=>
       have m35:=mt35 rfl
       obtain⟨h36,v36,t36,σ36,k36,⟨w36,q36,rfl,qq36,ft36⟩,S36,f36,m36⟩:=pe _ _ (d+1) S35 (by omega) (by omega)
       rw[hd1]at k36
       have lr_36:=lr_35.fr f36 npr
       have ls_36:=ls_35.fr f36 nps
       have F36:=F35.trans f36
       obtain⟨h37,k37,g37⟩:=eZ e [115,101,113] t34.a .full [.agg [.str t32.op,.str t32.name,.str t32.arg,.int .i64 t32.n,.int .i64 t32.at_,.sl w32 q32],.agg [.str t36.op,.str t36.name,.str t36.arg,.int .i64 t36.n,.int .i64 t36.at_,.sl w36 q36]] h36
       have S37:=S36.gr g37
       have lr_37:=lr_36.gr g37
       have ls_37:=ls_36.gr g37
       have F37:=F36.gr g37
       subst hh1
       subst hh33
       simp[EVT,aT,TYC,TYQ,MTQ,hty,hpl,hw,bytesOf,k2,k3,k4,k6,k12,k21,k23,k32,k34,k35,k36,k37,ls_35.g,ls_36.g,lr_37.g]at hy
       exact⟨_,_,(.mk [115,101,113] [] [] (0) (t34.a) [t32,t36]),_,hy.symm,nv_mk (wk_2 (dF qq32) (dF qq36)) (okl rfl) ok0 ok0 in0 ok34.2.2 (by simp) (fit_2 ft32 ft36),(dB S37 npr),(dC F37 lor),by omega⟩
      | false=>
       have m35:=mf35 rfl
       subst hh1
       subst hh33
       simp[EVT,aT,TYC,TYQ,MTQ,hty,hpl,hw,bytesOf,k2,k3,k4,k6,k12,k21,k23,k32,k34,k35,lr_35.g,ls_35.g]at hy
       exact⟨_,_,t32,_,hy.symm,⟨_,_,rfl,qq32,ft32⟩,(dB S35 npr),(dC F35 lor),by omega⟩
end
section
variable {E:Go.Ev.Env} {p:Nat} {o:Go.Ev.Own} {L:List Tk} {m:Nat}
def oneL:List (List Nat):=[[114,97,105,115,101],[102,115,116],[115,110,100],[114,101,102],[99,101,108,108],[116,97,103],[108,105,110,107,115],[115,105,122,101],[112,114,105,110,116]]
theorem oneL_len:oneL.length=9:=rfl
theorem oneL_ok:∀ w∈oneL,okS w:=by
 intro w hw
 have:(oneL.all fun s=>Nat.ble s.length 100&&s.all fun x=>Nat.blt x 256)=true:=by decide
 exact okl (List.all_eq_true.1 this w hw)
noncomputable def b139_0:Code:=aK Tryz.f139 0
theorem loop139_0 (e:POk E) (wf:WfL L) (pt:P2 E p o L 146 (m+1)) {d:Nat} (hd:d≤40) {r:Nat} (npr:r≠p) {g:H} (lor:g.nx≤r) {a:Int} (ha:In64 a):∀ (l:List (List Nat)) (i:Nat) {tm:Tm} {h:H} {σ:Ps} {x:Option (Ex × Tm × H)},l=oneL.drop i→i≤oneL.length→cdL E 139 65 (.loop b139_0) tm h=x→mu L σ<m+1→St h p o L σ→Lc h r [.str [],.str [],.str [],.int .i64 0,.int .i64 0,.sl .full []] →
  tm.get 0=some (.ptr (some (p,0)))→tm.get 1=some (.int .i64 ↑d)→tm.get 4=some (.ptr (some (r,0)))→tm.get 5=some (.int .i64 a)→tm.get 6=some (.sl .full (oneL.map .str))→tm.get 7=some (.int .i64 ↑i)→Fr p g h →
  (∃ tm' h' σ',x=some (.exit 0,tm',h')∧tm'.get 0=some (.ptr (some (p,0)))∧tm'.get 1=some (.int .i64 ↑d)∧tm'.get 4=some (.ptr (some (r,0)))∧tm'.get 5=some (.int .i64 a)∧Lc h' r [.str [],.str [],.str [],.int .i64 0,.int .i64 0,.sl .full []]∧St h' p o L σ'∧Fr p g h'∧mu L σ'≤mu L σ) ∨
  ∃ tm' h' t' w' q' σ',x=some (.ret,tm',h')∧tm'.get 4=some (.ptr (some (r,0)))∧Lc h' r [.str t'.op,.str t'.name,.str t'.arg,.int .i64 t'.n,.int .i64 t'.at_,.sl w' q']∧AV.wks 0 q' (avs t'.kids)∧fit t'∧St h' p o L σ'∧Fr p g h'∧(mu L σ'<mu L σ∨mu L σ'=0)
 | [],i,tm,h,σ,x,hl,hi,hx,hm,S0,lr0,u0,u1,u4,u5,u6,u7,F0=>by
  have hty:=e.ty
  have hpl:=e.pl
  have he:=dnil hl hi
  obtain⟨R,hR,hx⟩:=aS hx
  have hc:ltI ↑i ↑oneL.length=false:=dZ (by omega)
  simp[b139_0,aK,Tryz.f139,loops,lp,EVT,TYC,TYQ,hty,u6,u7,hc]at hx
  exact .inl ⟨_,_,_,hx.symm,by simp[T.aA,u0],by simp[T.aA,u1],by simp[T.aA,u4],by simp[T.aA,u5],lr0,S0,F0,Nat.le_refl _⟩
 | w::l,i,tm,h,σ,x,hl,hi,hx,hm,S0,lr0,u0,u1,u4,u5,u6,u7,F0=>by
  have hty:=e.ty
  have hpl:=e.pl
  have hd1:=succ_int d
  have hw:wr .i64 (↑d+1)=↑d+1:=cH (i:=d) (by omega)
  obtain⟨hlt,hwi,hl'⟩:=gC hl
  have okw:=oneL_ok w (List.mem_of_getElem? hwi)
  have h9:=oneL_len
  have hc:ltI ↑i ↑oneL.length=true:=eR hlt
  have hwi1:wr .i64 (↑i+1)=↑i+1:=cH (i:=i) (by omega)
  obtain⟨R,hR,hx⟩:=aS hx
  obtain⟨h1,b1,σ1,k1,S1,f1,mt1,mf1⟩:=eV e wf S0 w
  have lr_1:=lr0.fr f1 npr
  have F1:=F0.trans f1
  cases b1 with
  | true=>
   have m1:=mt1 rfl
   obtain⟨h2,v2,t2,σ2,k2,⟨w2,q2,rfl,qq2,ft2⟩,S2,f2,m2⟩:=pt _ _ d S1 (by omega) (by omega)
   have lr_2:=lr_1.fr f2 npr
   have F2:=F1.trans f2
   obtain⟨h3,k3,g3⟩:=eZ e w a .full [.agg [.str t2.op,.str t2.name,.str t2.arg,.int .i64 t2.n,.int .i64 t2.at_,.sl w2 q2]] h2
   have S3:=S2.gr g3
   have lr_3:=lr_2.gr g3
   have F3:=F2.gr g3
   simp[b139_0,aK,Tryz.f139,loops,lp,u0,u1,u4,u5,u6,u7,hc,hwi,EVT,TYC,TYQ,MTQ,hty,hpl,k1,k2,k3,lr_3.g]at hx
   exact .inr ⟨_,_,.mk w [] [] 0 a [t2],_,_,_,hx.symm,by simp[T.aA,u4],lc_same lr_3,wk_1 (dF qq2),fit_mk okw ok0 ok0 in0 ha (by simp) (fit_1 ft2),(dB S3 npr),(dC F3 lor),by omega⟩
  | false=>
   have m1:=mf1 rfl
   simp[b139_0,aK,Tryz.f139,loops,lp,u0,u1,u5,u6,u7,hc,hwi,hwi1,EVT,TYC,TYQ,MTQ,hty,hpl,k1]at hx
   rw[hR]at hx
   rcases loop139_0 e wf pt hd npr lor ha l (i+1) hl' hlt hx (by omega) S1 lr_1 (by simp[T.aA,u0]) (by simp[T.aA,u1]) (by simp[T.aA,u4]) (by simp[T.aA,u5]) (by simp[T.aA,u6]) (by simp[T.aA]) F1 with ⟨tm2,h2,σ2,z1,z2,z3,z4,z5,z6,z7,z8,z9⟩|⟨tm2,h2,t2,w2,q2,σ2,z1,z2,z3,z4,z5,z6,z7,z8⟩
   ·exact .inl ⟨tm2,h2,σ2,z1,z2,z3,z4,z5,z6,z7,z8,by omega⟩
   ·exact .inr ⟨tm2,h2,t2,w2,q2,σ2,z1,z2,z3,z4,z5,z6,z7,by omega⟩
noncomputable def b139_1:Code:=aK Tryz.f139 1
theorem loop139_1 (e:POk E) (wf:WfL L) (pt:P2 E p o L 146 (m+1)) {d:Nat} (hd:d≤40) {r s:Nat} (npr:r≠p) (nps:s≠p) (nrs:r≠s) {g:H} (lor:g.nx≤r) (los:g.nx≤s):∀ (n:Nat) {tm:Tm} {h:H} {σ:Ps} {t:Nd} {w:Go.Ev.Own} {q:List AV} {x:Option (Ex × Tm × H)},cdL E 139 65 (.loop b139_1) tm h=x→mu L σ<n→mu L σ<m+1→St h p o L σ→Lc h r [.str [],.str [],.str [],.int .i64 0,.int .i64 0,.sl .full []]→Lc h s [.str t.op,.str t.name,.str t.arg,.int .i64 t.n,.int .i64 t.at_,.sl w q]→AV.wks 0 q (avs t.kids)→fit t →
  tm.get 0=some (.ptr (some (p,0)))→tm.get 1=some (.int .i64 ↑d)→tm.get 4=some (.ptr (some (r,0)))→tm.get 9=some (.ptr (some (s,0)))→Fr p g h →
  ∃ tm' h' t' w' q' σ',x=some (.exit 2,tm',h')∧tm'.get 4=some (.ptr (some (r,0)))∧(tm'.get 9=some (.ptr (some (s,0)))∧Lc h' r [.str [],.str [],.str [],.int .i64 0,.int .i64 0,.sl .full []]∧Lc h' s [.str t'.op,.str t'.name,.str t'.arg,.int .i64 t'.n,.int .i64 t'.at_,.sl w' q'])∧AV.wks 0 q' (avs t'.kids)∧fit t'∧St h' p o L σ'∧Fr p g h'∧mu L σ'≤mu L σ
 | 0,tm,h,σ,t,w,q,x,hx,hn,_,_,_,_,_,_,_,_,_,_,_=>by omega
 | n+1,tm,h,σ,t,w,q,x,hx,hn,hm,S0,lr0,ls0,hq,hft,u0,u1,u4,us,F0=>by
  have hty:=e.ty
  have hpl:=e.pl
  have hd1:=succ_int d
  have hw:wr .i64 (↑d+1)=↑d+1:=cH (i:=d) (by omega)
  obtain⟨R,hR,hx⟩:=aS hx
  obtain⟨h1,b1,k1,g1,mb1⟩:=begins_run e wf S0
  have S1:=S0.gr g1
  have lr_1:=lr0.gr g1
  have ls_1:=ls0.gr g1
  have F1:=F0.gr g1
  cases b1 with
  | true=>
   have mp1:=mb1 rfl
   obtain⟨h2,k2,g2⟩:=now_run e S1
   have ok2:=now_ok wf S1
   have mn2:=mu_next wf S1
   have S2:=S1.gr g2
   generalize nowF L _=t2 at k2 ok2 mn2
   simp only[Tk.av]at k2
   have lr_2:=lr_1.gr g2
   have ls_2:=ls_1.gr g2
   have F2:=F1.gr g2
   obtain⟨h3,v3,t3,σ3,k3,⟨w3,q3,rfl,qq3,ft3⟩,S3,f3,m3⟩:=pt _ _ d S2 (by omega) (by omega)
   have lr_3:=lr_2.fr f3 npr
   have ls_3:=ls_2.fr f3 nps
   have F3:=F2.trans f3
   obtain⟨h4,k4,g4⟩:=eZ e [97,112,112] t2.a .full [.agg [.str t.op,.str t.name,.str t.arg,.int .i64 t.n,.int .i64 t.at_,.sl w q],.agg [.str t3.op,.str t3.name,.str t3.arg,.int .i64 t3.n,.int .i64 t3.at_,.sl w3 q3]] h3
   have S4:=S3.gr g4
   have lr_4:=lr_3.gr g4
   have ls_4:=ls_3.gr g4
   have F4:=F3.gr g4
   obtain⟨h5,hh5⟩:∃ g:H,g=⟨h4.t.set (s) (.cells [.str [97,112,112],.str [],.str [],.int .i64 0,.int .i64 t2.a,.sl .full [.agg [.str t.op,.str t.name,.str t.arg,.int .i64 t.n,.int .i64 t.at_,.sl w q],.agg [.str t3.op,.str t3.name,.str t3.arg,.int .i64 t3.n,.int .i64 t3.at_,.sl w3 q3]]]),h4.nx⟩:=⟨_,rfl⟩
   have S5:St h5 p o L _:=hh5▸dB S4 nps
   have F5:Fr p _ h5:=hh5▸dC F4 los
   have lr_5:Lc h5 (r) [.str [],.str [],.str [],.int .i64 0,.int .i64 0,.sl .full []]:=hh5▸lc_other lr_4 nrs
   have ls_5:Lc h5 (s) [.str [97,112,112],.str [],.str [],.int .i64 0,.int .i64 t2.a,.sl .full [.agg [.str t.op,.str t.name,.str t.arg,.int .i64 t.n,.int .i64 t.at_,.sl w q],.agg [.str t3.op,.str t3.name,.str t3.arg,.int .i64 t3.n,.int .i64 t3.at_,.sl w3 q3]]]:=hh5▸lc_same ls_4
   subst hh5
   simp[b139_1,aK,Tryz.f139,loops,lp,u0,u1,us,EVT,TYC,TYQ,MTQ,hty,hpl,bytesOf,k1,k2,k3,k4,ls_2.g,ls_3.g,ls_4.g]at hx
   rw[hR]at hx
   obtain⟨tm2,h2,t2,w2,q2,σ2,z1,z2,z3,z4,z5,z6,z7,z8⟩:=loop139_1 e wf pt hd npr nps nrs lor los n hx (t := .mk [97,112,112] [] [] 0 t2.a [t,t3]) (by omega) (by omega) S5 lr_5 ls_5 (wk_2 (dF hq) (dF qq3)) (fit_mk (okl rfl) ok0 ok0 in0 ok2.2.2 (by simp) (fit_2 hft ft3)) (by simp[T.aA,u0]) (by simp[T.aA,u1]) (by simp[T.aA,u4]) (by simp[T.aA,us]) F5
   exact⟨tm2,h2,t2,w2,q2,σ2,z1,z2,z3,z4,z5,z6,z7,by omega⟩
  | false=>
   simp[b139_1,aK,Tryz.f139,loops,lp,u0,EVT,k1]at hx
   exact⟨_,_,t,w,q,_,hx.symm,by simp[T.aA,u4],⟨by simp[T.aA,us],lr_1,ls_1⟩,hq,hft,S1,F1,by omega⟩
theorem body139:Tryz.f139.body=some (.seq (aC Tryz.f139 [0]) (.seq (aC Tryz.f139 [1,0]) (.seq (aC Tryz.f139 [1,1,0]) (.seq (.seq (aC Tryz.f139 [1,1,1,0,0]) (.block 0 (.loop b139_0))) (.seq (aC Tryz.f139 [1,1,1,1,0]) (.seq (aC Tryz.f139 [1,1,1,1,1,0]) (.seq (.block 2 (.loop b139_1)) (aC Tryz.f139 [1,1,1,1,1,1,1])))))))):=rfl
theorem app_step (e:POk E) (wf:WfL L) (pt:P2 E p o L 146 (m+1)):P2 E p o L 139 (m+1):=by
 intro h σ d S0 m0 hd
 have hty:=e.ty
 have hpl:=e.pl
 have hd1:=succ_int d
 have hw:wr .i64 (↑d+1)=↑d+1:=cH (i:=d) (by omega)
 generalize hy:evL E 139 _ _=y
 rw[bE E (e.no 139 (by simp)) (by rw[e.fn];kernel_rfl) body139 _ _ rfl]at hy
 simp only[aC,sub,Tryz.f139]at hy
 obtain⟨h1,hh1⟩:∃ g:H,g=⟨h.t.set h.nx (.cells [.str [],.str [],.str [],.int .i64 0,.int .i64 0,.sl .full []]),h.nx+1⟩:=⟨_,rfl⟩
 have g1:Gr h h1:=hh1▸cC _ _
 have npr:h.nx≠p:=by have:=S0.lt;omega
 have lor:h.nx≤h.nx:=(Fr.refl p h).nx
 have F1:=(Fr.refl p h).gr g1
 have S1:=S0.gr g1
 have lr_1:Lc h1 h.nx [.str [],.str [],.str [],.int .i64 0,.int .i64 0,.sl .full []]:=hh1▸gD _ _
 obtain⟨h2,k2,g2⟩:=now_run e S1
 have ok2:=now_ok wf S1
 have mn2:=mu_next wf S1
 have S2:=S1.gr g2
 generalize nowF L _=t2 at k2 ok2 mn2
 simp only[Tk.av]at k2
 have lr_2:=lr_1.gr g2
 have F2:=F1.gr g2
 subst hh1
 simp[EVT,aT,TYC,TYQ,MTQ,hty,hpl,bytesOf,k2]at hy
 generalize hx:cdL E 139 65 (.loop b139_0) _ _=x at hy
 have okat:=ok2.2.2
 rcases loop139_0 e wf pt hd npr lor okat oneL 0 rfl (by omega) hx (by omega) S2 lr_2 (by simp[T.aA]) (by simp[T.aA]) (by simp[T.aA]) (by simp[T.aA]) (by simp[T.aA,oneL]) (by simp[T.aA]) F2 with ⟨tm9,h9,σ9,rfl,u0,u1,u4,u5,lr9,S9,F9,m9⟩|⟨tm9,h9,t9,w9,q9,σ9,rfl,u4,lr9,qq9,ft9,S9,F9,m9⟩
 ·clear hx
  obtain⟨h21,b21,σ21,k21,S21,f21,mt21,mf21⟩:=eV e wf S9 [108,105,110,107]
  have lr_21:=lr9.fr f21 npr
  have F21:=F9.trans f21
  cases b21 with
  | true=>
   have m21:=mt21 rfl
   obtain⟨h22,v22,t22,σ22,k22,⟨w22,q22,rfl,qq22,ft22⟩,S22,f22,m22⟩:=pt _ _ d S21 (by omega) (by omega)
   have lr_22:=lr_21.fr f22 npr
   have F22:=F21.trans f22
   obtain⟨h23,hh23⟩:∃ g:H,g=⟨(h22.t.set h22.nx (.cells [.str [],.str [],.str [],.int .i64 0,.int .i64 0,.sl .full []])).set h22.nx (.cells [.str t22.op,.str t22.name,.str t22.arg,.int .i64 t22.n,.int .i64 t22.at_,.sl w22 q22]),h22.nx+1⟩:=⟨_,rfl⟩
   have g23:Gr h22 h23:=hh23▸bR _ _ _
   have ner_23:h.nx≠h22.nx:=by have:=lr_22.lt;omega
   have nps:h22.nx≠p:=by have:=S22.lt;omega
   have los:h.nx≤h22.nx:=F22.nx
   have lr_23:=lr_22.gr g23
   have F23:=F22.gr g23
   have S23:=S22.gr g23
   have ls_23:Lc h23 h22.nx [.str t22.op,.str t22.name,.str t22.arg,.int .i64 t22.n,.int .i64 t22.at_,.sl w22 q22]:=hh23▸eH _ _ _
   obtain⟨h24,v24,t24,σ24,k24,⟨w24,q24,rfl,qq24,ft24⟩,S24,f24,m24⟩:=pt _ _ d S23 (by omega) (by omega)
   have lr_24:=lr_23.fr f24 npr
   have ls_24:=ls_23.fr f24 nps
   have F24:=F23.trans f24
   obtain⟨h25,k25,g25⟩:=eZ e [108,105,110,107] t2.a .full [.agg [.str t22.op,.str t22.name,.str t22.arg,.int .i64 t22.n,.int .i64 t22.at_,.sl w22 q22],.agg [.str t24.op,.str t24.name,.str t24.arg,.int .i64 t24.n,.int .i64 t24.at_,.sl w24 q24]] h24
   have S25:=S24.gr g25
   have lr_25:=lr_24.gr g25
   have ls_25:=ls_24.gr g25
   have F25:=F24.gr g25
   subst hh23
   simp[EVT,k21,k22,k24,k25,ls_23.g,ls_24.g,lr_25.g,u0,u1,u4,u5]at hy
   exact⟨_,_,(.mk [108,105,110,107] [] [] (0) (t2.a) [t22,t24]),_,hy.symm,nv_mk (wk_2 (dF qq22) (dF qq24)) (okl rfl) ok0 ok0 in0 ok2.2.2 (by simp) (fit_2 ft22 ft24),(dB S25 npr),(dC F25 lor),by omega⟩
  | false=>
   have m21:=mf21 rfl
   obtain⟨h26,v26,t26,σ26,k26,⟨w26,q26,rfl,qq26,ft26⟩,S26,f26,m26⟩:=pt _ _ d S21 (by omega) (by omega)
   have lr_26:=lr_21.fr f26 npr
   have F26:=F21.trans f26
   obtain⟨h27,hh27⟩:∃ g:H,g=⟨(h26.t.set h26.nx (.cells [.str [],.str [],.str [],.int .i64 0,.int .i64 0,.sl .full []])).set h26.nx (.cells [.str t26.op,.str t26.name,.str t26.arg,.int .i64 t26.n,.int .i64 t26.at_,.sl w26 q26]),h26.nx+1⟩:=⟨_,rfl⟩
   have g27:Gr h26 h27:=hh27▸bR _ _ _
   have ner_27:h.nx≠h26.nx:=by have:=lr_26.lt;omega
   have nps:h26.nx≠p:=by have:=S26.lt;omega
   have los:h.nx≤h26.nx:=F26.nx
   have lr_27:=lr_26.gr g27
   have F27:=F26.gr g27
   have S27:=S26.gr g27
   have ls_27:Lc h27 h26.nx [.str t26.op,.str t26.name,.str t26.arg,.int .i64 t26.n,.int .i64 t26.at_,.sl w26 q26]:=hh27▸eH _ _ _
   subst hh27
   simp[EVT,k21,k26,ls_27.g,u0,u1,u5]at hy
   generalize hx:cdL E 139 65 (.loop b139_1) _ _=x at hy
   obtain⟨tm2,h8,t8,w8,q8,σ8,rfl,z2,⟨z3,z4,z5⟩,z6,z7,z8,z9,z10⟩:=loop139_1 e wf pt hd npr nps ner_27 lor los _ hx (Nat.lt_succ_self _) (by omega) S27 lr_27 ls_27 qq26 ft26 (by simp[T.aA,u0]) (by simp[T.aA,u1]) (by simp[T.aA,u4]) (by simp[T.aA]) F27
   have z4g:=z4.g
   have z5g:=z5.g
   simp[EVT,z2,z3,z4g,z5g]at hy
   exact⟨_,_,t8,_,hy.symm,⟨_,_,rfl,z6,z7⟩,dB z8 npr,dC z9 lor,by omega⟩
 ·have lr9g:=lr9.g
  simp[u4,lr9g]at hy
  exact⟨_,_,t9,_,hy.symm,⟨_,_,rfl,qq9,ft9⟩,S9,F9,by omega⟩
end
end Go.Proofs.YtogjplcnmibnlaaGreatDoor.Pa
