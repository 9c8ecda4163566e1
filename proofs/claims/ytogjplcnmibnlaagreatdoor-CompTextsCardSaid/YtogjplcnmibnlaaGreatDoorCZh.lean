/- The reference's ways: if, match, try. -/
import Derived.Test.YtogjplcnmibnlaaGreatDoorCZg
set_option autoImplicit false
set_option maxRecDepth 100000
set_option maxHeartbeats 8000000
set_option linter.unusedSimpArgs false
set_option linter.unusedVariables false
namespace Go.Proofs.YtogjplcnmibnlaaGreatDoor.Env
open Go.Ev Go.Ev.Nd
def fN (E:Env) (fn:Nat) (h:H) (m:Nat) (fv:AV) (F:List AV) (w:Go.Ev.Own) (CS:List (List Ins)) (q:Nat) (c:List Ins) (N:List (List Ins)) (t:Nd) (oe:Go.Ev.Own) (en:List Str) (g:G3):Prop:=
 ∃ h',evL E fn [.ptr (some (m,0)),.int .i64 ↑q,t.av,.sl oe (strs en)] h=some (.tup [],h')∧Md h m fv F w g.1 (Sta CS q (c++g.2.2) (N++g.2.1)) h'
theorem leaf_no {o p:List Nat} {n:Int} {en S:List Str} (h:dL o p n en S=none):aB o oInt=false∧aB o oBool=false∧aB o oUnit=false∧aB o oNil=false∧aB o oStr=false∧aB o oVar=false:=by
 unfold dL at h
 cases c1:aB o oInt<;>cases c2:aB o oBool<;>cases c3:aB o oUnit<;>cases c4:aB o oNil<;>cases c5:aB o oStr<;>cases c6:aB o oVar<;>simp_all
theorem body81:Tryz.f81.body=some (aC Tryz.f81 []):=rfl
section
variable {E:Env} {h:H} {m:Nat} {fv:AV} {F:List AV} {w:Go.Ev.Own} {S:List Str} {CS:List (List Ins)} {q:Nat} {c:List Ins} {N:List (List Ins)} {t:Nd} {oe:Go.Ev.Own} {en:List Str} {d:Nat}
theorem ways_if (e:EOk14 E) (nr:NR14 E d) (M:MR h m fv F w S (Sta CS q c N)) (hq:q<CS.length) (ht:t.dep≤d+1) (ha:arOk t=true) (hv:Vd (d+1) t en) (b1:S.length+t.size≤1000000) (b2:CS.length+N.length+t.size≤1000000) (b3:c.length+8*t.size≤1000000) (b4:en.length+2*t.dep≤1000000) (hg:dL t.op t.name t.n en S=none) (c0:aB t.op oFun=false) (c1:aB t.op oLet=false) (c2:aB t.op oRec=false) (c3:aB t.op oIf=true) :
  fN E 81 h m fv F w CS q c N t oe en (gen (d+1) t en S (CS.length+N.length) c.length):=by
 have hty:=e.ty
 have hpl:=e.pl
 have hs1:1≤t.size:=by rw[size_eq];omega
 have hn:=(dQ ha).1 3 (ar3 c3 (.inl rfl))
 have hs:=kids3 hn
 have hb:∀ i,i<t.kids.length→Vd d (kid t i) (bi t i++en):=hv.2.2
 obtain⟨M1,T1,B1⟩:=M.boxed t
 have g1:=B1.g
 simp only[boxed,ndC]at g1
 obtain⟨l1,l2,l3,l4,l5,l6⟩:=leaf_no hg
 have i0:0<t.kids.length:=by omega
 have d0:=dK i0
 have s0:1≤(kid t 0).size:=by rw[size_eq];omega
 have a0:=cX (dG i0)
 have v0:=hb 0 i0
 have q0:=fun en S nf pos=>cW d (kid t 0) en S nf pos (cQ ha i0)
 have i1:1<t.kids.length:=by omega
 have d1:=dK i1
 have s1:1≤(kid t 1).size:=by rw[size_eq];omega
 have a1:=cX (dG i1)
 have v1:=hb 1 i1
 have q1:=fun en S nf pos=>cW d (kid t 1) en S nf pos (cQ ha i1)
 have i2:2<t.kids.length:=by omega
 have d2:=dK i2
 have s2:1≤(kid t 2).size:=by rw[size_eq];omega
 have a2:=cX (dG i2)
 have v2:=hb 2 i2
 have q2:=fun en S nf pos=>cW d (kid t 2) en S nf pos (cQ ha i2)
 simp only[bi,c0,c1,c2,c3,cond_true,cond_false,List.nil_append]at v0 v1 v2
 obtain⟨h2,k2,fv2,F2,w2,M2,T2⟩:=nr (kid t 0) en oe (by omega) (cQ ha i0) v0 M1 hq (by omega) (by omega) (by omega) (by omega)
 have B2:=B1.step T2
 have n0:=q0 en S (CS.length+N.length) c.length
 generalize hR0:gen d (kid t 0) en S (CS.length+N.length) c.length=R0 at *
 obtain⟨x1,x2,x3⟩:=n0
 obtain⟨h3,k3,fv3,F3,w3,M3,T3⟩:=add_st e M2 hq (by simp;omega) 12 0
 have B3:=B2.step T3
 obtain⟨h4,k4,fv4,F4,w4,M4,T4⟩:=nr (kid t 1) en oe (by omega) (cQ ha i1) v1 M3 hq (by omega) (by simp;omega) (by simp;omega) (by omega)
 have B4:=B3.step T4
 have e1:CS.length+(N++R0.2.1).length=CS.length+N.length+R0.2.1.length:=by simp;omega
 have e2:(c++R0.2.2++[(⟨12,0⟩:Ins)]).length=c.length+R0.2.2.length+1:=by simp;omega
 rw[e1,e2]at M4
 have n1:=q1 en R0.1 (CS.length+N.length+R0.2.1.length) (c.length+R0.2.2.length+1)
 generalize hR1:gen d (kid t 1) en R0.1 (CS.length+N.length+R0.2.1.length) (c.length+R0.2.2.length+1)=R1 at *
 obtain⟨y1,y2,y3⟩:=n1
 obtain⟨h5,k5,fv5,F5,w5,M5,T5⟩:=add_st e M4 hq (by simp;omega) 11 0
 have B5:=B4.step T5
 have e3:c++R0.2.2++[(⟨12,0⟩:Ins)]++R1.2.2++[(⟨11,0⟩:Ins)]=(c++R0.2.2)++(⟨12,0⟩:Ins)::(R1.2.2++[(⟨11,0⟩:Ins)]):=by simp
 rw[e3]at M5
 obtain⟨h6,k6,fv6,F6,w6,M6,T6⟩:=here_st e M5 hq (by simp;omega) (p:=(c++R0.2.2).length) (by simp)
 have B6:=B5.step T6
 rw[hereF_at]at M6
 simp only at M6
 have e4:((c++R0.2.2)++(⟨12,0⟩:Ins)::(R1.2.2++[(⟨11,0⟩:Ins)])).length=c.length+R0.2.2.length+1+R1.2.2.length+1:=by simp;omega
 rw[e4]at M6
 obtain⟨h7,k7,fv7,F7,w7,M7,T7⟩:=nr (kid t 2) en oe (by omega) (cQ ha i2) v2 M6 hq (by omega) (by simp;omega) (by simp;omega) (by omega)
 have e5:CS.length+(N++R0.2.1++R1.2.1).length=CS.length+N.length+R0.2.1.length+R1.2.1.length:=by simp;omega
 have e6:((c++R0.2.2)++(⟨12,↑(c.length+R0.2.2.length+1+R1.2.2.length+1)⟩:Ins)::(R1.2.2++[(⟨11,0⟩:Ins)])).length=c.length+R0.2.2.length+1+R1.2.2.length+1:=by simp;omega
 rw[e5,e6]at M7
 have n2:=q2 en R1.1 (CS.length+N.length+R0.2.1.length+R1.2.1.length) (c.length+R0.2.2.length+1+R1.2.2.length+1)
 generalize hR2:gen d (kid t 2) en R1.1 (CS.length+N.length+R0.2.1.length+R1.2.1.length) (c.length+R0.2.2.length+1+R1.2.2.length+1)=R2 at *
 obtain⟨u1,u2,u3⟩:=n2
 have e7:(c++R0.2.2)++(⟨12,↑(c.length+R0.2.2.length+1+R1.2.2.length+1)⟩:Ins)::(R1.2.2++[(⟨11,0⟩:Ins)])++R2.2.2=((c++R0.2.2)++(⟨12,↑(c.length+R0.2.2.length+1+R1.2.2.length+1)⟩:Ins)::R1.2.2)++(⟨11,0⟩:Ins)::R2.2.2:=by simp
 rw[e7]at M7
 have e8:((c++R0.2.2)++(⟨12,↑(c.length+R0.2.2.length+1+R1.2.2.length+1)⟩:Ins)::R1.2.2).length=c.length+R0.2.2.length+1+R1.2.2.length:=by simp;omega
 obtain⟨hE,k8,fv8,F8,w8,M8,T8⟩:=here_st e M7 hq (by simp;omega) (p:=((c++R0.2.2)++(⟨12,↑(c.length+R0.2.2.length+1+R1.2.2.length+1)⟩:Ins)::R1.2.2).length) (by simp)
 rw[hereF_at]at M8
 have e9:(((c++R0.2.2)++(⟨12,↑(c.length+R0.2.2.length+1+R1.2.2.length+1)⟩:Ins)::R1.2.2)++(⟨11,0⟩:Ins)::R2.2.2).length=c.length+R0.2.2.length+1+R1.2.2.length+1+R2.2.2.length:=by simp;omega
 rw[e9]at M8
 rw[e8]at k8
 have e10:(c++R0.2.2++[(⟨12,0⟩:Ins)]++R1.2.2).length=c.length+R0.2.2.length+1+R1.2.2.length:=by simp;omega
 rw[e10]at k5
 push_cast [List.length_append]at k3 k5 k6 k8
 have g2:=B2.g
 have g3:=B3.g
 have g4:=B4.g
 have g5:=B5.g
 have g6:=B6.g
 have AA:=((((((T1.trans T2).trans T3).trans T4).trans T5).trans T6).trans T7).trans T8
 have K:evL E 81 [.ptr (some (m,0)),.int .i64 ↑q,t.av,.sl oe (strs en)] h=some (.tup [],hE):=by
  rw[bE E (e.no 81 (by simp)) (by rw[e.fn];kernel_rfl) body81 _ _ rfl]
  simp only[aC,sub,Tryz.f81]
  simp only[oFun,oLet,oRec,oIf]at c0 c1 c2 c3
  simp only[oInt,oBool,oUnit,oNil,oStr,oVar]at l1 l2 l3 l4 l5 l6
  rw[bZ t]
  simp only[bZ (kid t 0)]at a0 k2
  simp only[bZ (kid t 1)]at a1 k4
  simp only[bZ (kid t 2)]at a2 k7
  simp only[boxed,ndC]at k2 g2 g3 g4 g5 g6
  simp[EVT,aT,bC,aX,bA,bT,aL,aN,aQ,bX,aV,AV.cells,aG,aZ,val,aH,bN,cP,aU,H.new,setArgs,bQ,bS,bJ,aR,TYC,hty,bytesOf,c3,g1,a0,a1,a2,k2,k3,k4,k5,k6,k7,k8,g3,g6]
 have G:gen (d+1) t en S (CS.length+N.length) c.length=cI (gen d (kid t 0) en S (CS.length+N.length) c.length) (twoG 12 (gen d (kid t 1) en) (gen d (kid t 2) en)) (CS.length+N.length) c.length:=by simp only[gen,hg,c0,c1,c2,c3,cond_true,cond_false]
 unfold fN
 rw[G]
 simp only[cI,twoG,hR0,hR1,hR2]
 simp only[List.append_assoc,List.cons_append]at M8 ⊢
 exact⟨hE,K,fv8,F8,w8,M8,AA⟩
theorem ways_match (e:EOk14 E) (nr:NR14 E d) (M:MR h m fv F w S (Sta CS q c N)) (hq:q<CS.length) (ht:t.dep≤d+1) (ha:arOk t=true) (hv:Vd (d+1) t en) (b1:S.length+t.size≤1000000) (b2:CS.length+N.length+t.size≤1000000) (b3:c.length+8*t.size≤1000000) (b4:en.length+2*t.dep≤1000000) (hg:dL t.op t.name t.n en S=none) (c0:aB t.op oFun=false) (c1:aB t.op oLet=false) (c2:aB t.op oRec=false) (c3:aB t.op oIf=false) (c4:aB t.op dV=true) :
  fN E 81 h m fv F w CS q c N t oe en (gen (d+1) t en S (CS.length+N.length) c.length):=by
 have hty:=e.ty
 have hpl:=e.pl
 have hs1:1≤t.size:=by rw[size_eq];omega
 have hn:=(dQ ha).1 3 (ar3 c4 (.inr rfl))
 have hs:=kids3 hn
 have hb:∀ i,i<t.kids.length→Vd d (kid t i) (bi t i++en):=hv.2.2
 obtain⟨M1,T1,B1⟩:=M.boxed t
 have g1:=B1.g
 simp only[boxed,ndC]at g1
 obtain⟨l1,l2,l3,l4,l5,l6⟩:=leaf_no hg
 have i0:0<t.kids.length:=by omega
 have d0:=dK i0
 have s0:1≤(kid t 0).size:=by rw[size_eq];omega
 have a0:=cX (dG i0)
 have v0:=hb 0 i0
 have q0:=fun en S nf pos=>cW d (kid t 0) en S nf pos (cQ ha i0)
 have i1:1<t.kids.length:=by omega
 have d1:=dK i1
 have s1:1≤(kid t 1).size:=by rw[size_eq];omega
 have a1:=cX (dG i1)
 have v1:=hb 1 i1
 have q1:=fun en S nf pos=>cW d (kid t 1) en S nf pos (cQ ha i1)
 have i2:2<t.kids.length:=by omega
 have d2:=dK i2
 have s2:1≤(kid t 2).size:=by rw[size_eq];omega
 have a2:=cX (dG i2)
 have v2:=hb 2 i2
 have q2:=fun en S nf pos=>cW d (kid t 2) en S nf pos (cQ ha i2)
 simp only[bi,c0,c1,c2,c3,c4,cond_true,cond_false]at v0 v1 v2
 obtain⟨h2,k2,fv2,F2,w2,M2,T2⟩:=nr (kid t 0) en oe (by omega) (cQ ha i0) v0 M1 hq (by omega) (by omega) (by omega) (by omega)
 have B2:=B1.step T2
 have n0:=q0 en S (CS.length+N.length) c.length
 generalize hR0:gen d (kid t 0) en S (CS.length+N.length) c.length=R0 at *
 obtain⟨x1,x2,x3⟩:=n0
 obtain⟨h3,k3,fv3,F3,w3,M3,T3⟩:=add_st e M2 hq (by simp;omega) 13 0
 have B3:=B2.step T3
 obtain⟨hu,ow,ku,Mu,Tu⟩:=under_st e M3 (a:=[(⟨t.arg⟩:Str),(⟨t.name⟩:Str)]) (b:=en) .full oe (by simp;omega)
 have Bu:=B3.step Tu
 obtain⟨h4,k4,fv4,F4,w4,M4,T4⟩:=nr (kid t 2) ((⟨t.arg⟩:Str)::(⟨t.name⟩:Str)::en) ow (by omega) (cQ ha i2) v2 Mu hq (by omega) (by simp;omega) (by simp;omega) (by simp;omega)
 have B4:=Bu.step T4
 have e1:CS.length+(N++R0.2.1).length=CS.length+N.length+R0.2.1.length:=by simp;omega
 have e2:(c++R0.2.2++[(⟨13,0⟩:Ins)]).length=c.length+R0.2.2.length+1:=by simp;omega
 rw[e1,e2]at M4
 have n2:=q2 ((⟨t.arg⟩:Str)::(⟨t.name⟩:Str)::en) R0.1 (CS.length+N.length+R0.2.1.length) (c.length+R0.2.2.length+1)
 generalize hR2:gen d (kid t 2) ((⟨t.arg⟩:Str)::(⟨t.name⟩:Str)::en) R0.1 (CS.length+N.length+R0.2.1.length) (c.length+R0.2.2.length+1)=R2 at *
 obtain⟨y1,y2,y3⟩:=n2
 obtain⟨h5,k5,fv5,F5,w5,M5,T5⟩:=add_st e M4 hq (by simp;omega) 7 0
 have B5:=B4.step T5
 obtain⟨h6,k6,fv6,F6,w6,M6,T6⟩:=add_st e M5 hq (by simp;omega) 7 0
 have B6:=B5.step T6
 obtain⟨h7,k7,fv7,F7,w7,M7,T7⟩:=add_st e M6 hq (by simp;omega) 11 0
 have B7:=B6.step T7
 have e3:c++R0.2.2++[(⟨13,0⟩:Ins)]++R2.2.2++[(⟨7,0⟩:Ins)]++[(⟨7,0⟩:Ins)]++[(⟨11,0⟩:Ins)]=(c++R0.2.2)++(⟨13,0⟩:Ins)::(R2.2.2++[(⟨7,0⟩:Ins)]++[(⟨7,0⟩:Ins)]++[(⟨11,0⟩:Ins)]):=by simp
 rw[e3]at M7
 obtain⟨h8,k8,fv8,F8,w8,M8,T8⟩:=here_st e M7 hq (by simp;omega) (p:=(c++R0.2.2).length) (by simp)
 have B8:=B7.step T8
 rw[hereF_at]at M8
 simp only at M8
 have e4:((c++R0.2.2)++(⟨13,0⟩:Ins)::(R2.2.2++[(⟨7,0⟩:Ins)]++[(⟨7,0⟩:Ins)]++[(⟨11,0⟩:Ins)])).length=c.length+R0.2.2.length+1+(R2.2.2++[(⟨7,0⟩:Ins)]++[(⟨7,0⟩:Ins)]).length+1:=by simp;omega
 rw[e4]at M8
 obtain⟨h9,k9,fv9,F9,w9,M9,T9⟩:=nr (kid t 1) en oe (by omega) (cQ ha i1) v1 M8 hq (by omega) (by simp;omega) (by simp;omega) (by omega)
 have e5:CS.length+(N++R0.2.1++R2.2.1).length=CS.length+N.length+R0.2.1.length+R2.2.1.length:=by simp;omega
 have e6:((c++R0.2.2)++(⟨13,↑(c.length+R0.2.2.length+1+(R2.2.2++[(⟨7,0⟩:Ins)]++[(⟨7,0⟩:Ins)]).length+1)⟩:Ins)::(R2.2.2++[(⟨7,0⟩:Ins)]++[(⟨7,0⟩:Ins)]++[(⟨11,0⟩:Ins)])).length=c.length+R0.2.2.length+1+(R2.2.2++[(⟨7,0⟩:Ins)]++[(⟨7,0⟩:Ins)]).length+1:=by simp;omega
 rw[e5,e6]at M9
 have n1:=q1 en R2.1 (CS.length+N.length+R0.2.1.length+R2.2.1.length) (c.length+R0.2.2.length+1+(R2.2.2++[(⟨7,0⟩:Ins)]++[(⟨7,0⟩:Ins)]).length+1)
 generalize hR1:gen d (kid t 1) en R2.1 (CS.length+N.length+R0.2.1.length+R2.2.1.length) (c.length+R0.2.2.length+1+(R2.2.2++[(⟨7,0⟩:Ins)]++[(⟨7,0⟩:Ins)]).length+1)=R1 at *
 obtain⟨u1,u2,u3⟩:=n1
 have e7:(c++R0.2.2)++(⟨13,↑(c.length+R0.2.2.length+1+(R2.2.2++[(⟨7,0⟩:Ins)]++[(⟨7,0⟩:Ins)]).length+1)⟩:Ins)::(R2.2.2++[(⟨7,0⟩:Ins)]++[(⟨7,0⟩:Ins)]++[(⟨11,0⟩:Ins)])++R1.2.2=((c++R0.2.2)++(⟨13,↑(c.length+R0.2.2.length+1+(R2.2.2++[(⟨7,0⟩:Ins)]++[(⟨7,0⟩:Ins)]).length+1)⟩:Ins)::(R2.2.2++[(⟨7,0⟩:Ins)]++[(⟨7,0⟩:Ins)]))++(⟨11,0⟩:Ins)::R1.2.2:=by simp
 rw[e7]at M9
 have e8:((c++R0.2.2)++(⟨13,↑(c.length+R0.2.2.length+1+(R2.2.2++[(⟨7,0⟩:Ins)]++[(⟨7,0⟩:Ins)]).length+1)⟩:Ins)::(R2.2.2++[(⟨7,0⟩:Ins)]++[(⟨7,0⟩:Ins)])).length=c.length+R0.2.2.length+1+(R2.2.2++[(⟨7,0⟩:Ins)]++[(⟨7,0⟩:Ins)]).length:=by simp;omega
 obtain⟨hE,k10,fv10,F10,w10,M10,T10⟩:=here_st e M9 hq (by simp;omega) (p:=((c++R0.2.2)++(⟨13,↑(c.length+R0.2.2.length+1+(R2.2.2++[(⟨7,0⟩:Ins)]++[(⟨7,0⟩:Ins)]).length+1)⟩:Ins)::(R2.2.2++[(⟨7,0⟩:Ins)]++[(⟨7,0⟩:Ins)])).length) (by simp)
 rw[hereF_at]at M10
 have e9:(((c++R0.2.2)++(⟨13,↑(c.length+R0.2.2.length+1+(R2.2.2++[(⟨7,0⟩:Ins)]++[(⟨7,0⟩:Ins)]).length+1)⟩:Ins)::(R2.2.2++[(⟨7,0⟩:Ins)]++[(⟨7,0⟩:Ins)]))++(⟨11,0⟩:Ins)::R1.2.2).length=c.length+R0.2.2.length+1+(R2.2.2++[(⟨7,0⟩:Ins)]++[(⟨7,0⟩:Ins)]).length+1+R1.2.2.length:=by simp;omega
 rw[e9]at M10
 rw[e8]at k10
 have e10:(c++R0.2.2++[(⟨13,0⟩:Ins)]++R2.2.2++[(⟨7,0⟩:Ins)]++[(⟨7,0⟩:Ins)]).length=c.length+R0.2.2.length+1+(R2.2.2++[(⟨7,0⟩:Ins)]++[(⟨7,0⟩:Ins)]).length:=by simp;omega
 rw[e10]at k7
 push_cast [List.length_append,List.length_cons,List.length_nil]at k3 k7 k8 k10
 have g2:=B2.g
 have g3:=B3.g
 have gu:=Bu.g
 have g4:=B4.g
 have g5:=B5.g
 have g6:=B6.g
 have g7:=B7.g
 have g8:=B8.g
 have AA:=((((((((T1.trans T2).trans T3).trans Tu).trans T4).trans T5).trans T6).trans T7).trans T8).trans (T9.trans T10)
 have K:evL E 81 [.ptr (some (m,0)),.int .i64 ↑q,t.av,.sl oe (strs en)] h=some (.tup [],hE):=by
  rw[bE E (e.no 81 (by simp)) (by rw[e.fn];kernel_rfl) body81 _ _ rfl]
  simp only[aC,sub,Tryz.f81]
  simp only[oFun,oLet,oRec,oIf,dV]at c0 c1 c2 c3 c4
  simp only[oInt,oBool,oUnit,oNil,oStr,oVar]at l1 l2 l3 l4 l5 l6
  rw[bZ t]
  simp only[bZ (kid t 0)]at a0 k2
  simp only[bZ (kid t 1)]at a1 k9
  simp only[bZ (kid t 2)]at a2 k4
  rw[show strs [(⟨t.arg⟩:Str),(⟨t.name⟩:Str)]=[AV.str t.arg,AV.str t.name] from rfl]at ku
  simp only[boxed,ndC]at k2 g2 g3 gu g4 g5 g6 g7 g8
  simp[EVT,aT,bC,aX,bA,bT,aL,aN,aQ,bX,aV,AV.cells,aG,aZ,val,aH,bN,cP,aU,aO,aM,bI,recheck,H.new,setArgs,bQ,bS,bJ,aR,TYC,hty,hpl,bytesOf,c3,c4,g1,a0,a1,a2,k2,k3,ku,k4,k5,k6,k7,k8,k9,k10,g3,gu,g8]
 have G:gen (d+1) t en S (CS.length+N.length) c.length=cI (gen d (kid t 0) en S (CS.length+N.length) c.length) (twoG 13 (fun S nf pos=>cI (cI (gen d (kid t 2) (⟨t.arg⟩::⟨t.name⟩::en) S nf pos) (gB ⟨7,0⟩) nf pos) (gB ⟨7,0⟩) nf pos) (gen d (kid t 1) en)) (CS.length+N.length) c.length:=by simp only[gen,hg,c0,c1,c2,c3,c4,cond_true,cond_false]
 unfold fN
 rw[G]
 simp only[cI,twoG,gB,hR0,hR1,hR2,List.append_nil]
 simp only[List.append_assoc,List.cons_append,List.nil_append]at M10 ⊢
 exact⟨hE,K,fv10,F10,w10,M10,AA⟩
theorem ways_try (e:EOk14 E) (nr:NR14 E d) (M:MR h m fv F w S (Sta CS q c N)) (hq:q<CS.length) (ht:t.dep≤d+1) (ha:arOk t=true) (hv:Vd (d+1) t en) (b1:S.length+t.size≤1000000) (b2:CS.length+N.length+t.size≤1000000) (b3:c.length+8*t.size≤1000000) (b4:en.length+2*t.dep≤1000000) (hg:dL t.op t.name t.n en S=none) (c0:aB t.op oFun=false) (c1:aB t.op oLet=false) (c2:aB t.op oRec=false) (c3:aB t.op oIf=false) (c4:aB t.op dV=false) (c5:aB t.op oTry=true) :
  fN E 81 h m fv F w CS q c N t oe en (gen (d+1) t en S (CS.length+N.length) c.length):=by
 have hty:=e.ty
 have hpl:=e.pl
 have hs1:1≤t.size:=by rw[size_eq];omega
 have hn:=(dQ ha).1 2 (by simp[arity,c0,c1,c2,c3,c4,c5])
 have hs:=kids2 hn
 have hb:∀ i,i<t.kids.length→Vd d (kid t i) (bi t i++en):=hv.2.2
 obtain⟨M1,T1,B1⟩:=M.boxed t
 have g1:=B1.g
 simp only[boxed,ndC]at g1
 obtain⟨l1,l2,l3,l4,l5,l6⟩:=leaf_no hg
 have i0:0<t.kids.length:=by omega
 have d0:=dK i0
 have s0:1≤(kid t 0).size:=by rw[size_eq];omega
 have a0:=cX (dG i0)
 have v0:=hb 0 i0
 have q0:=fun en S nf pos=>cW d (kid t 0) en S nf pos (cQ ha i0)
 have i1:1<t.kids.length:=by omega
 have d1:=dK i1
 have s1:1≤(kid t 1).size:=by rw[size_eq];omega
 have a1:=cX (dG i1)
 have v1:=hb 1 i1
 have q1:=fun en S nf pos=>cW d (kid t 1) en S nf pos (cQ ha i1)
 simp only[bi,c0,c1,c2,c3,c4,c5,cond_true,cond_false]at v0 v1
 obtain⟨h3,k3,fv3,F3,w3,M3,T3⟩:=add_st e M1 hq (by omega) 14 0
 have B3:=B1.step T3
 obtain⟨h4,k4,fv4,F4,w4,M4,T4⟩:=nr (kid t 0) en oe (by omega) (cQ ha i0) v0 M3 hq (by omega) (by omega) (by simp;omega) (by omega)
 have B4:=B3.step T4
 have e2:(c++[(⟨14,0⟩:Ins)]).length=c.length+1:=by simp
 rw[e2]at M4
 have n0:=q0 en S (CS.length+N.length) (c.length+1)
 generalize hR0:gen d (kid t 0) en S (CS.length+N.length) (c.length+1)=R0 at *
 obtain⟨y1,y2,y3⟩:=n0
 obtain⟨h5,k5,fv5,F5,w5,M5,T5⟩:=add_st e M4 hq (by simp;omega) 15 0
 have B5:=B4.step T5
 obtain⟨h6,k6,fv6,F6,w6,M6,T6⟩:=add_st e M5 hq (by simp;omega) 11 0
 have B6:=B5.step T6
 have e3:c++[(⟨14,0⟩:Ins)]++R0.2.2++[(⟨15,0⟩:Ins)]++[(⟨11,0⟩:Ins)]=c++(⟨14,0⟩:Ins)::(R0.2.2++[(⟨15,0⟩:Ins)]++[(⟨11,0⟩:Ins)]):=by simp
 rw[e3]at M6
 obtain⟨h7,k7,fv7,F7,w7,M7,T7⟩:=here_st e M6 hq (by simp;omega) (p:=c.length) (by simp)
 have B7:=B6.step T7
 rw[hereF_at]at M7
 simp only at M7
 have e4:(c++(⟨14,0⟩:Ins)::(R0.2.2++[(⟨15,0⟩:Ins)]++[(⟨11,0⟩:Ins)])).length=c.length+1+(R0.2.2++[(⟨15,0⟩:Ins)]).length+1:=by simp;omega
 rw[e4]at M7
 obtain⟨h8,k8,fv8,F8,w8,M8,T8⟩:=bound14_run e nr (kid t 1) t.name en oe (by omega) (cQ ha i1) v1 M7 hq (by omega) (by simp;omega) (by simp;omega) (by omega)
 have e5:CS.length+(N++R0.2.1).length=CS.length+N.length+R0.2.1.length:=by simp;omega
 have e6:(c++(⟨14,↑(c.length+1+(R0.2.2++[(⟨15,0⟩:Ins)]).length+1)⟩:Ins)::(R0.2.2++[(⟨15,0⟩:Ins)]++[(⟨11,0⟩:Ins)])).length=c.length+1+(R0.2.2++[(⟨15,0⟩:Ins)]).length+1:=by simp;omega
 rw[e5,e6]at M8
 have n1:=fA.genB (g:=gen d) (k:=kid t 1) (fun en S nf pos=>q1 en S nf pos) t.name en R0.1 (CS.length+N.length+R0.2.1.length) (c.length+1+(R0.2.2++[(⟨15,0⟩:Ins)]).length+1)
 generalize hR1:genB (gen d) (kid t 1) t.name en R0.1 (CS.length+N.length+R0.2.1.length) (c.length+1+(R0.2.2++[(⟨15,0⟩:Ins)]).length+1)=R1 at *
 obtain⟨u1,u2,u3⟩:=n1
 have e7:c++(⟨14,↑(c.length+1+(R0.2.2++[(⟨15,0⟩:Ins)]).length+1)⟩:Ins)::(R0.2.2++[(⟨15,0⟩:Ins)]++[(⟨11,0⟩:Ins)])++R1.2.2=(c++(⟨14,↑(c.length+1+(R0.2.2++[(⟨15,0⟩:Ins)]).length+1)⟩:Ins)::(R0.2.2++[(⟨15,0⟩:Ins)]))++(⟨11,0⟩:Ins)::R1.2.2:=by simp
 rw[e7]at M8
 have e8:(c++(⟨14,↑(c.length+1+(R0.2.2++[(⟨15,0⟩:Ins)]).length+1)⟩:Ins)::(R0.2.2++[(⟨15,0⟩:Ins)])).length=c.length+1+(R0.2.2++[(⟨15,0⟩:Ins)]).length:=by simp;omega
 obtain⟨hE,k9,fv9,F9,w9,M9,T9⟩:=here_st e M8 hq (by simp;omega) (p:=(c++(⟨14,↑(c.length+1+(R0.2.2++[(⟨15,0⟩:Ins)]).length+1)⟩:Ins)::(R0.2.2++[(⟨15,0⟩:Ins)])).length) (by simp)
 rw[hereF_at]at M9
 have e9:((c++(⟨14,↑(c.length+1+(R0.2.2++[(⟨15,0⟩:Ins)]).length+1)⟩:Ins)::(R0.2.2++[(⟨15,0⟩:Ins)]))++(⟨11,0⟩:Ins)::R1.2.2).length=c.length+1+(R0.2.2++[(⟨15,0⟩:Ins)]).length+1+R1.2.2.length:=by simp;omega
 rw[e9]at M9
 rw[e8]at k9
 have e10:(c++[(⟨14,0⟩:Ins)]++R0.2.2++[(⟨15,0⟩:Ins)]).length=c.length+1+(R0.2.2++[(⟨15,0⟩:Ins)]).length:=by simp;omega
 rw[e10]at k6
 push_cast [List.length_append,List.length_cons,List.length_nil]at k6 k9
 have g3:=B3.g
 have g4:=B4.g
 have g5:=B5.g
 have g6:=B6.g
 have g7:=B7.g
 have AA:=((((((T1.trans T3).trans T4).trans T5).trans T6).trans T7).trans T8).trans T9
 have K:evL E 81 [.ptr (some (m,0)),.int .i64 ↑q,t.av,.sl oe (strs en)] h=some (.tup [],hE):=by
  rw[bE E (e.no 81 (by simp)) (by rw[e.fn];kernel_rfl) body81 _ _ rfl]
  simp only[aC,sub,Tryz.f81]
  simp only[oFun,oLet,oRec,oIf,dV,oTry]at c0 c1 c2 c3 c4 c5
  simp only[oInt,oBool,oUnit,oNil,oStr,oVar]at l1 l2 l3 l4 l5 l6
  rw[bZ t]
  simp only[bZ (kid t 0)]at a0 k4
  simp only[bZ (kid t 1)]at a1 k8
  simp only[boxed,ndC]at k3 g3 g4 g5 g6 g7
  simp[EVT,aT,bC,aX,bA,bT,aL,aN,aQ,bX,aV,AV.cells,aG,aZ,val,aH,bN,cP,aU,aO,bI,recheck,H.new,setArgs,bQ,bS,bJ,aR,TYC,hty,hpl,bytesOf,c3,c4,g1,a0,a1,k3,k4,k5,k6,k7,k8,k9,g3,g7]
 have G:gen (d+1) t en S (CS.length+N.length) c.length=twoG 14 (fun S nf pos=>cI (gen d (kid t 0) en S nf pos) (gB ⟨15,0⟩) nf pos) (genB (gen d) (kid t 1) t.name en) S (CS.length+N.length) c.length:=by simp only[gen,hg,c0,c1,c2,c3,c4,c5,cond_true,cond_false]
 unfold fN
 rw[G]
 simp only[cI,twoG,gB,hR0,hR1,List.append_nil]
 simp only[List.append_assoc,List.cons_append,List.nil_append]at M9 ⊢
 exact⟨hE,K,fv9,F9,w9,M9,AA⟩
end
end Go.Proofs.YtogjplcnmibnlaaGreatDoor.Env
