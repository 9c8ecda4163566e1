/- The reference's node: the cases but the last. -/
import Derived.Test.YtogjplcnmibnlaaGreatDoorCZh
import Derived.Test.YtogjplcnmibnlaaGreatDoorTie
import Derived.Test.YtogjplcnmibnlaaGreatDoorCards
import Derived.LaidMore
import Derived.Stop.Joined
import Derived.SevenTiedAt
set_option autoImplicit false
set_option maxRecDepth 100000
set_option maxHeartbeats 8000000
set_option linter.unusedSimpArgs false
set_option linter.unusedVariables false
namespace Go.Proofs.YtogjplcnmibnlaaGreatDoor.Env
open Go.Ev Go.Ev.Nd
attribute [local simp] bC aX bA bT aL aN aQ bX bF bW dE cD aV AV.cells aG aZ val aH bN bP cP bG eI aU aO aM bY bI recheck H.new H.put cT aY bB AV.one setArgs bQ bS bJ aR aP bK
noncomputable def b45_0:Code:=aK Tryz.f45 0
theorem body45:Tryz.f45.body=some (.seq (aC Tryz.f45 [0]) (.seq (aC Tryz.f45 [1,0]) (.seq (.seq (aC Tryz.f45 [1,1,0,0]) (.block 1 (.loop b45_0))) (aC Tryz.f45 [1,1,1])))):=rfl
section
variable {E:Env} {h:H} {m:Nat} {fv:AV} {F:List AV} {w:Go.Ev.Own} {S:List Str} {CS:List (List Ins)} {q:Nat} {c:List Ins} {N:List (List Ins)} {t:Nd} {oe:Go.Ev.Own} {en:List Str} {d:Nat}
theorem node14_leaf (e:EOk14 E) (M:MR h m fv F w S (Sta CS q c N)) (hq:q<CS.length) (hv:leafV t en) (b1:S.length≤1000000) (b3:c.length≤1000000) (b4:en.length≤1000000) {S':List Str} {i:Ins} (hg:dL t.op t.name t.n en S=some (S',i)) :
  fN E 45 h m fv F w CS q c N t oe en (S',[],[i]):=by
 have hty:=e.ty
 have hpl:=e.pl
 obtain⟨M1,T1,B1⟩:=M.boxed t
 obtain⟨hE,k2,fv2,F2,w2,M2,T2⟩:=leaf14_run hty hpl (e.no 80 (by simp)) (e.no 46 (by simp)) (e.no 116 (by simp)) e.fn M1 (sta_get hq c N) b3 b1 b4 oe t hv hg
 rw[sta_set hq]at M2
 simp only[boxed,ndC]at k2
 have hc:(aB t.op oInt||(aB t.op oBool||(aB t.op oUnit||(aB t.op oNil||(aB t.op oStr||aB t.op oVar)))))=true:=by
  unfold dL at hg
  cases l1:aB t.op oInt<;>cases l2:aB t.op oBool<;>cases l3:aB t.op oUnit<;>cases l4:aB t.op oNil<;>cases l5:aB t.op oStr<;>cases l6:aB t.op oVar<;>simp_all
 have K:evL E 45 [.ptr (some (m,0)),.int .i64 ↑q,t.av,.sl oe (strs en)] h=some (.tup [],hE):=by
  rw[bE E (e.no 45 (by simp)) (by rw[e.fn];kernel_rfl) body45 _ _ rfl]
  simp only[aC,sub,Tryz.f45]
  rw[bZ t]at k2 ⊢
  simp only[oInt,oBool,oUnit,oNil,oStr,oVar]at hc
  cases l1:aB t.op [105,110,116]with
  | true=>simp[EVT,aT,TYC,hty,hpl,bytesOf,l1,k2]
  | false=>
  cases l2:aB t.op [98,111,111,108]with
  | true=>simp[EVT,aT,TYC,hty,hpl,bytesOf,l1,l2,k2]
  | false=>
  cases l3:aB t.op [117,110,105,116]with
  | true=>simp[EVT,aT,TYC,hty,hpl,bytesOf,l1,l2,l3,k2]
  | false=>
  cases l4:aB t.op [110,105,108]with
  | true=>simp[EVT,aT,TYC,hty,hpl,bytesOf,l1,l2,l3,l4,k2]
  | false=>
  cases l5:aB t.op [115,116,114]with
  | true=>simp[EVT,aT,TYC,hty,hpl,bytesOf,l1,l2,l3,l4,l5,k2]
  | false=>
  cases l6:aB t.op [118,97,114]with
  | true=>simp[EVT,aT,TYC,hty,hpl,bytesOf,l1,l2,l3,l4,l5,l6,k2]
  | false=>rw[l1,l2,l3,l4,l5,l6]at hc;cases hc
 unfold fN
 rw[List.append_nil]
 exact⟨hE,K,fv2,F2,w2,M2,T1.trans T2⟩
theorem node14_if (e:EOk14 E) (nr:NR14 E d) (M:MR h m fv F w S (Sta CS q c N)) (hq:q<CS.length) (ht:t.dep≤d+1) (ha:arOk t=true) (hv:Vd (d+1) t en) (b1:S.length+t.size≤1000000) (b2:CS.length+N.length+t.size≤1000000) (b3:c.length+8*t.size≤1000000) (b4:en.length+2*t.dep≤1000000) (hg:dL t.op t.name t.n en S=none) (c0:aB t.op oFun=false) (c1:aB t.op oLet=false) (c2:aB t.op oRec=false) (c3:aB t.op oIf=true) :
  fN E 45 h m fv F w CS q c N t oe en (gen (d+1) t en S (CS.length+N.length) c.length):=by
 have hty:=e.ty
 have hpl:=e.pl
 obtain⟨M1,T1,B1⟩:=M.boxed t
 obtain⟨l1,l2,l3,l4,l5,l6⟩:=leaf_no hg
 obtain⟨hE,k2,fv2,F2,w2,M2,T2⟩:=ways_if (oe:=oe) e nr M1 hq ht ha hv b1 b2 b3 b4 hg c0 c1 c2 c3
 have K:evL E 45 [.ptr (some (m,0)),.int .i64 ↑q,t.av,.sl oe (strs en)] h=some (.tup [],hE):=by
  rw[bE E (e.no 45 (by simp)) (by rw[e.fn];kernel_rfl) body45 _ _ rfl]
  simp only[aC,sub,Tryz.f45]
  simp only[oFun,oLet,oRec,oIf]at c0 c1 c2 c3
  simp only[oInt,oBool,oUnit,oNil,oStr,oVar]at l1 l2 l3 l4 l5 l6
  simp only[boxed,ndC]at k2
  rw[bZ t]at k2 ⊢
  simp[EVT,aT,TYC,hty,hpl,bytesOf,l1,l2,l3,l4,l5,l6,c0,c1,c2,c3,k2]
 exact⟨hE,K,fv2,F2,w2,M2,T1.trans T2⟩
theorem node14_match (e:EOk14 E) (nr:NR14 E d) (M:MR h m fv F w S (Sta CS q c N)) (hq:q<CS.length) (ht:t.dep≤d+1) (ha:arOk t=true) (hv:Vd (d+1) t en) (b1:S.length+t.size≤1000000) (b2:CS.length+N.length+t.size≤1000000) (b3:c.length+8*t.size≤1000000) (b4:en.length+2*t.dep≤1000000) (hg:dL t.op t.name t.n en S=none) (c0:aB t.op oFun=false) (c1:aB t.op oLet=false) (c2:aB t.op oRec=false) (c3:aB t.op oIf=false) (c4:aB t.op dV=true) :
  fN E 45 h m fv F w CS q c N t oe en (gen (d+1) t en S (CS.length+N.length) c.length):=by
 have hty:=e.ty
 have hpl:=e.pl
 obtain⟨M1,T1,B1⟩:=M.boxed t
 obtain⟨l1,l2,l3,l4,l5,l6⟩:=leaf_no hg
 obtain⟨hE,k2,fv2,F2,w2,M2,T2⟩:=ways_match (oe:=oe) e nr M1 hq ht ha hv b1 b2 b3 b4 hg c0 c1 c2 c3 c4
 have K:evL E 45 [.ptr (some (m,0)),.int .i64 ↑q,t.av,.sl oe (strs en)] h=some (.tup [],hE):=by
  rw[bE E (e.no 45 (by simp)) (by rw[e.fn];kernel_rfl) body45 _ _ rfl]
  simp only[aC,sub,Tryz.f45]
  simp only[oFun,oLet,oRec,oIf,dV]at c0 c1 c2 c3 c4
  simp only[oInt,oBool,oUnit,oNil,oStr,oVar]at l1 l2 l3 l4 l5 l6
  simp only[boxed,ndC]at k2
  rw[bZ t]at k2 ⊢
  simp[EVT,aT,TYC,hty,hpl,bytesOf,l1,l2,l3,l4,l5,l6,c0,c1,c2,c3,c4,k2]
 exact⟨hE,K,fv2,F2,w2,M2,T1.trans T2⟩
theorem node14_try (e:EOk14 E) (nr:NR14 E d) (M:MR h m fv F w S (Sta CS q c N)) (hq:q<CS.length) (ht:t.dep≤d+1) (ha:arOk t=true) (hv:Vd (d+1) t en) (b1:S.length+t.size≤1000000) (b2:CS.length+N.length+t.size≤1000000) (b3:c.length+8*t.size≤1000000) (b4:en.length+2*t.dep≤1000000) (hg:dL t.op t.name t.n en S=none) (c0:aB t.op oFun=false) (c1:aB t.op oLet=false) (c2:aB t.op oRec=false) (c3:aB t.op oIf=false) (c4:aB t.op dV=false) (c5:aB t.op oTry=true) :
  fN E 45 h m fv F w CS q c N t oe en (gen (d+1) t en S (CS.length+N.length) c.length):=by
 have hty:=e.ty
 have hpl:=e.pl
 obtain⟨M1,T1,B1⟩:=M.boxed t
 obtain⟨l1,l2,l3,l4,l5,l6⟩:=leaf_no hg
 obtain⟨hE,k2,fv2,F2,w2,M2,T2⟩:=ways_try (oe:=oe) e nr M1 hq ht ha hv b1 b2 b3 b4 hg c0 c1 c2 c3 c4 c5
 have K:evL E 45 [.ptr (some (m,0)),.int .i64 ↑q,t.av,.sl oe (strs en)] h=some (.tup [],hE):=by
  rw[bE E (e.no 45 (by simp)) (by rw[e.fn];kernel_rfl) body45 _ _ rfl]
  simp only[aC,sub,Tryz.f45]
  simp only[oFun,oLet,oRec,oIf,dV,oTry]at c0 c1 c2 c3 c4 c5
  simp only[oInt,oBool,oUnit,oNil,oStr,oVar]at l1 l2 l3 l4 l5 l6
  simp only[boxed,ndC]at k2
  rw[bZ t]at k2 ⊢
  simp[EVT,aT,TYC,hty,hpl,bytesOf,l1,l2,l3,l4,l5,l6,c0,c1,c2,c3,c4,c5,k2]
 exact⟨hE,K,fv2,F2,w2,M2,T1.trans T2⟩
theorem node14_fun (e:EOk14 E) (nr:NR14 E d) (M:MR h m fv F w S (Sta CS q c N)) (hq:q<CS.length) (ht:t.dep≤d+1) (ha:arOk t=true) (hv:Vd (d+1) t en) (b1:S.length+t.size≤1000000) (b2:CS.length+N.length+t.size≤1000000) (b3:c.length+8*t.size≤1000000) (b4:en.length+2*t.dep≤1000000) (hg:dL t.op t.name t.n en S=none) (c0:aB t.op oFun=true) :
  fN E 45 h m fv F w CS q c N t oe en (gen (d+1) t en S (CS.length+N.length) c.length):=by
 have hty:=e.ty
 have hpl:=e.pl
 have hs1:1≤t.size:=by rw[size_eq];omega
 have hn:=(dQ ha).1 1 (by simp[arity,c0])
 have hs:=kids1 hn
 have hb:∀ i,i<t.kids.length→Vd d (kid t i) (bi t i++en):=hv.2.2
 obtain⟨M1,T1,B1⟩:=M.boxed t
 have g1:=B1.g
 simp only[boxed,ndC]at g1
 obtain⟨l1,l2,l3,l4,l5,l6⟩:=leaf_no hg
 have i0:0<t.kids.length:=by omega
 have d0:=dK i0
 have s0:1≤(kid t 0).size:=by rw[size_eq];omega
 have a0:=cX (dG i0)
 have v0:=hb 0 i0
 have q0:=fun en S nf pos=>cW d (kid t 0) en S nf pos (cQ ha i0)
 simp only[bi,c0,cond_true,List.cons_append,List.nil_append]at v0
 obtain⟨hu,ow,ku,Mu,Tu⟩:=under_st e M1 (a:=[(⟨t.name⟩:Str)]) (b:=en) .full oe (by simp;omega)
 have Bu:=B1.step Tu
 obtain⟨h3,k3,fv3,F3,w3,M3,T3⟩:=fun14_run e nr (kid t 0) ((⟨t.name⟩:Str)::en) ow (by omega) (cQ ha i0) v0 Mu (by omega) (by rw[sta_len];omega) (by omega) (by simp;omega)
 have B3:=Bu.step T3
 rw[sta_len]at M3 k3
 have e1:Sta CS q c N++(cZ (gen d) (kid t 0) (⟨t.name⟩::en) S (CS.length+N.length)).2=Sta CS q c (N++(cZ (gen d) (kid t 0) (⟨t.name⟩::en) S (CS.length+N.length)).2):=by simp[Sta]
 rw[e1]at M3
 obtain⟨hE,k4,fv4,F4,w4,M4,T4⟩:=add_st e M3 hq (by omega) 4 ↑(CS.length+N.length)
 have gu:=Bu.g
 have g3:=B3.g
 push_cast at k3 k4
 have AA:=((T1.trans Tu).trans T3).trans T4
 have y3:aB t.op oIf=false:=by rw[nb_of c0];rfl
 have y4:aB t.op dV=false:=by rw[nb_of c0];rfl
 have y5:aB t.op oTry=false:=by rw[nb_of c0];rfl
 have K:evL E 45 [.ptr (some (m,0)),.int .i64 ↑q,t.av,.sl oe (strs en)] h=some (.tup [],hE):=by
  rw[bE E (e.no 45 (by simp)) (by rw[e.fn];kernel_rfl) body45 _ _ rfl]
  simp only[aC,sub,Tryz.f45]
  simp only[oFun]at c0
  simp only[oInt,oBool,oUnit,oNil,oStr,oVar]at l1 l2 l3 l4 l5 l6
  rw[bZ t]
  simp only[bZ (kid t 0)]at a0 k3
  rw[show strs [(⟨t.name⟩:Str)]=[AV.str t.name] from rfl]at ku
  simp only[oIf,dV,oTry]at y3 y4 y5
  simp only[boxed,ndC]at ku gu g3
  simp[EVT,aT,TYC,hty,hpl,bytesOf,l1,l2,l3,l4,l5,l6,c0,y3,y4,y5,g1,a0,ku,k3,k4,gu]
 have G:gen (d+1) t en S (CS.length+N.length) c.length=((cZ (gen d) (kid t 0) (⟨t.name⟩::en) S (CS.length+N.length)).1,(cZ (gen d) (kid t 0) (⟨t.name⟩::en) S (CS.length+N.length)).2,[⟨4,↑(CS.length+N.length)⟩]):=by simp only[gen,hg,c0,cond_true]
 unfold fN
 rw[G]
 exact⟨hE,K,fv4,F4,w4,M4,AA⟩
theorem node14_let (e:EOk14 E) (nr:NR14 E d) (M:MR h m fv F w S (Sta CS q c N)) (hq:q<CS.length) (ht:t.dep≤d+1) (ha:arOk t=true) (hv:Vd (d+1) t en) (b1:S.length+t.size≤1000000) (b2:CS.length+N.length+t.size≤1000000) (b3:c.length+8*t.size≤1000000) (b4:en.length+2*t.dep≤1000000) (hg:dL t.op t.name t.n en S=none) (c0:aB t.op oFun=false) (c1:aB t.op oLet=true) :
  fN E 45 h m fv F w CS q c N t oe en (gen (d+1) t en S (CS.length+N.length) c.length):=by
 have hty:=e.ty
 have hpl:=e.pl
 have hs1:1≤t.size:=by rw[size_eq];omega
 have hn:=(dQ ha).1 2 (by simp[arity,c0,c1])
 have hs:=kids2 hn
 have hb:∀ i,i<t.kids.length→Vd d (kid t i) (bi t i++en):=hv.2.2
 obtain⟨M1,T1,B1⟩:=M.boxed t
 have g1:=B1.g
 simp only[boxed,ndC]at g1
 obtain⟨l1,l2,l3,l4,l5,l6⟩:=leaf_no hg
 have i0:0<t.kids.length:=by omega
 have d0:=dK i0
 have s0:1≤(kid t 0).size:=by rw[size_eq];omega
 have a0:=cX (dG i0)
 have v0:=hb 0 i0
 have q0:=fun en S nf pos=>cW d (kid t 0) en S nf pos (cQ ha i0)
 have i1:1<t.kids.length:=by omega
 have d1:=dK i1
 have s1:1≤(kid t 1).size:=by rw[size_eq];omega
 have a1:=cX (dG i1)
 have v1:=hb 1 i1
 have q1:=fun en S nf pos=>cW d (kid t 1) en S nf pos (cQ ha i1)
 simp only[bi,c0,c1,cond_true,cond_false]at v0 v1
 obtain⟨h2,k2,fv2,F2,w2,M2,T2⟩:=nr (kid t 0) en oe (by omega) (cQ ha i0) v0 M1 hq (by omega) (by omega) (by omega) (by omega)
 have B2:=B1.step T2
 have n0:=q0 en S (CS.length+N.length) c.length
 generalize hR0:gen d (kid t 0) en S (CS.length+N.length) c.length=R0 at *
 obtain⟨x1,x2,x3⟩:=n0
 obtain⟨hE,k3,fv3,F3,w3,M3,T3⟩:=bound14_run e nr (kid t 1) t.name en oe (by omega) (cQ ha i1) v1 M2 hq (by omega) (by simp;omega) (by simp;omega) (by omega)
 have e1:CS.length+(N++R0.2.1).length=CS.length+N.length+R0.2.1.length:=by simp;omega
 rw[e1,List.length_append]at M3
 have g2:=B2.g
 have AA:=(T1.trans T2).trans T3
 have y3:aB t.op oIf=false:=by rw[nb_of c1];rfl
 have y4:aB t.op dV=false:=by rw[nb_of c1];rfl
 have y5:aB t.op oTry=false:=by rw[nb_of c1];rfl
 have K:evL E 45 [.ptr (some (m,0)),.int .i64 ↑q,t.av,.sl oe (strs en)] h=some (.tup [],hE):=by
  rw[bE E (e.no 45 (by simp)) (by rw[e.fn];kernel_rfl) body45 _ _ rfl]
  simp only[aC,sub,Tryz.f45]
  simp only[oFun,oLet]at c0 c1
  simp only[oInt,oBool,oUnit,oNil,oStr,oVar]at l1 l2 l3 l4 l5 l6
  rw[bZ t]
  simp only[bZ (kid t 0)]at a0 k2
  simp only[bZ (kid t 1)]at a1 k3
  simp only[oIf,dV,oTry]at y3 y4 y5
  simp only[boxed,ndC]at k2 g2
  simp[EVT,aT,TYC,hty,hpl,bytesOf,l1,l2,l3,l4,l5,l6,c0,c1,y3,y4,y5,g1,a0,a1,k2,k3,g2]
 have G:gen (d+1) t en S (CS.length+N.length) c.length=cI (gen d (kid t 0) en S (CS.length+N.length) c.length) (genB (gen d) (kid t 1) t.name en) (CS.length+N.length) c.length:=by simp only[gen,hg,c0,c1,cond_true,cond_false]
 unfold fN
 rw[G]
 simp only[cI,hR0]
 simp only[List.append_assoc]at M3 ⊢
 exact⟨hE,K,fv3,F3,w3,M3,AA⟩
theorem node14_rec (e:EOk14 E) (nr:NR14 E d) (M:MR h m fv F w S (Sta CS q c N)) (hq:q<CS.length) (ht:t.dep≤d+1) (ha:arOk t=true) (hv:Vd (d+1) t en) (b1:S.length+t.size≤1000000) (b2:CS.length+N.length+t.size≤1000000) (b3:c.length+8*t.size≤1000000) (b4:en.length+2*t.dep≤1000000) (hg:dL t.op t.name t.n en S=none) (c0:aB t.op oFun=false) (c1:aB t.op oLet=false) (c2:aB t.op oRec=true) :
  fN E 45 h m fv F w CS q c N t oe en (gen (d+1) t en S (CS.length+N.length) c.length):=by
 have hty:=e.ty
 have hpl:=e.pl
 have hs1:1≤t.size:=by rw[size_eq];omega
 have hn:=(dQ ha).1 2 (by simp[arity,c0,c1,c2])
 have hs:=kids2 hn
 have hb:∀ i,i<t.kids.length→Vd d (kid t i) (bi t i++en):=hv.2.2
 obtain⟨M1,T1,B1⟩:=M.boxed t
 have g1:=B1.g
 simp only[boxed,ndC]at g1
 obtain⟨l1,l2,l3,l4,l5,l6⟩:=leaf_no hg
 have i0:0<t.kids.length:=by omega
 have d0:=dK i0
 have s0:1≤(kid t 0).size:=by rw[size_eq];omega
 have a0:=cX (dG i0)
 have v0:=hb 0 i0
 have q0:=fun en S nf pos=>cW d (kid t 0) en S nf pos (cQ ha i0)
 have i1:1<t.kids.length:=by omega
 have d1:=dK i1
 have s1:1≤(kid t 1).size:=by rw[size_eq];omega
 have a1:=cX (dG i1)
 have v1:=hb 1 i1
 have q1:=fun en S nf pos=>cW d (kid t 1) en S nf pos (cQ ha i1)
 simp only[bi,c0,c1,c2,cond_true,cond_false]at v0 v1
 obtain⟨hu,ow,ku,Mu,Tu⟩:=under_st e M1 (a:=[(⟨t.arg⟩:Str),(⟨t.name⟩:Str)]) (b:=en) .full oe (by simp;omega)
 have Bu:=B1.step Tu
 obtain⟨h3,k3,fv3,F3,w3,M3,T3⟩:=fun14_run e nr (kid t 0) ((⟨t.arg⟩:Str)::(⟨t.name⟩:Str)::en) ow (by omega) (cQ ha i0) v0 Mu (by omega) (by rw[sta_len];omega) (by omega) (by simp;omega)
 have B3:=Bu.step T3
 rw[sta_len]at M3 k3
 have n0:(cZ (gen d) (kid t 0) (⟨t.arg⟩::⟨t.name⟩::en) S (CS.length+N.length)).1.length≤S.length+(kid t 0).size∧(cZ (gen d) (kid t 0) (⟨t.arg⟩::⟨t.name⟩::en) S (CS.length+N.length)).2.length≤(kid t 0).size+1:=by
  have:=q0 (⟨t.arg⟩::⟨t.name⟩::en) S (CS.length+N.length+1) 0
  simp only[cZ,List.length_cons]
  exact⟨this.1,by have:=this.2.1;omega⟩
 generalize hR0:cZ (gen d) (kid t 0) (⟨t.arg⟩::⟨t.name⟩::en) S (CS.length+N.length)=R0 at *
 obtain⟨x1,x2⟩:=n0
 have e1:Sta CS q c N++R0.2=Sta CS q c (N++R0.2):=by simp[Sta]
 rw[e1]at M3
 obtain⟨h4,k4,fv4,F4,w4,M4,T4⟩:=add_st e M3 hq (by omega) 5 ↑(CS.length+N.length)
 have B4:=B3.step T4
 obtain⟨hE,k5,fv5,F5,w5,M5,T5⟩:=bound14_run e nr (kid t 1) t.name en oe (by omega) (cQ ha i1) v1 M4 hq (by omega) (by simp;omega) (by simp;omega) (by omega)
 have e2:CS.length+(N++R0.2).length=CS.length+N.length+R0.2.length:=by simp;omega
 have e3:(c++[(⟨5,↑(CS.length+N.length)⟩:Ins)]).length=c.length+1:=by simp
 rw[e2,e3]at M5
 have gu:=Bu.g
 have g3:=B3.g
 have g4:=B4.g
 push_cast at k3 k4
 have AA:=(((T1.trans Tu).trans T3).trans T4).trans T5
 have y3:aB t.op oIf=false:=by rw[nb_of c2];rfl
 have y4:aB t.op dV=false:=by rw[nb_of c2];rfl
 have y5:aB t.op oTry=false:=by rw[nb_of c2];rfl
 have K:evL E 45 [.ptr (some (m,0)),.int .i64 ↑q,t.av,.sl oe (strs en)] h=some (.tup [],hE):=by
  rw[bE E (e.no 45 (by simp)) (by rw[e.fn];kernel_rfl) body45 _ _ rfl]
  simp only[aC,sub,Tryz.f45]
  simp only[oFun,oLet,oRec]at c0 c1 c2
  simp only[oInt,oBool,oUnit,oNil,oStr,oVar]at l1 l2 l3 l4 l5 l6
  rw[bZ t]
  simp only[bZ (kid t 0)]at a0 k3
  simp only[bZ (kid t 1)]at a1 k5
  rw[show strs [(⟨t.arg⟩:Str),(⟨t.name⟩:Str)]=[AV.str t.arg,AV.str t.name] from rfl]at ku
  simp only[oIf,dV,oTry]at y3 y4 y5
  simp only[boxed,ndC]at ku gu g3 g4
  simp[EVT,aT,TYC,hty,hpl,bytesOf,l1,l2,l3,l4,l5,l6,c0,c1,c2,y3,y4,y5,g1,a0,a1,ku,k3,k4,k5,gu,g4]
 have G:gen (d+1) t en S (CS.length+N.length) c.length=cI ((cZ (gen d) (kid t 0) (⟨t.arg⟩::⟨t.name⟩::en) S (CS.length+N.length)).1,(cZ (gen d) (kid t 0) (⟨t.arg⟩::⟨t.name⟩::en) S (CS.length+N.length)).2,[⟨5,↑(CS.length+N.length)⟩]) (genB (gen d) (kid t 1) t.name en) (CS.length+N.length) c.length:=by simp only[gen,hg,c0,c1,c2,cond_true,cond_false]
 unfold fN
 rw[G]
 simp only[cI,hR0]
 simp only[List.append_assoc,List.length_cons,List.length_nil,Nat.zero_add]at M5 ⊢
 exact⟨hE,K,fv5,F5,w5,M5,AA⟩
theorem node14_seq (e:EOk14 E) (nr:NR14 E d) (M:MR h m fv F w S (Sta CS q c N)) (hq:q<CS.length) (ht:t.dep≤d+1) (ha:arOk t=true) (hv:Vd (d+1) t en) (b1:S.length+t.size≤1000000) (b2:CS.length+N.length+t.size≤1000000) (b3:c.length+8*t.size≤1000000) (b4:en.length+2*t.dep≤1000000) (hg:dL t.op t.name t.n en S=none) (c0:aB t.op oFun=false) (c1:aB t.op oLet=false) (c2:aB t.op oRec=false) (c3:aB t.op oIf=false) (c4:aB t.op dV=false) (c5:aB t.op oTry=false) (c6:aB t.op oSeq=true) :
  fN E 45 h m fv F w CS q c N t oe en (gen (d+1) t en S (CS.length+N.length) c.length):=by
 have hty:=e.ty
 have hpl:=e.pl
 have hs1:1≤t.size:=by rw[size_eq];omega
 have hn:=(dQ ha).1 2 (by simp[arity,c0,c1,c2,c3,c4,c5,c6])
 have hs:=kids2 hn
 have hb:∀ i,i<t.kids.length→Vd d (kid t i) (bi t i++en):=hv.2.2
 obtain⟨M1,T1,B1⟩:=M.boxed t
 have g1:=B1.g
 simp only[boxed,ndC]at g1
 obtain⟨l1,l2,l3,l4,l5,l6⟩:=leaf_no hg
 have i0:0<t.kids.length:=by omega
 have d0:=dK i0
 have s0:1≤(kid t 0).size:=by rw[size_eq];omega
 have a0:=cX (dG i0)
 have v0:=hb 0 i0
 have q0:=fun en S nf pos=>cW d (kid t 0) en S nf pos (cQ ha i0)
 have i1:1<t.kids.length:=by omega
 have d1:=dK i1
 have s1:1≤(kid t 1).size:=by rw[size_eq];omega
 have a1:=cX (dG i1)
 have v1:=hb 1 i1
 have q1:=fun en S nf pos=>cW d (kid t 1) en S nf pos (cQ ha i1)
 simp only[bi,c0,c1,c2,c3,c4,c5,cond_false,List.nil_append]at v0 v1
 obtain⟨h2,k2,fv2,F2,w2,M2,T2⟩:=nr (kid t 0) en oe (by omega) (cQ ha i0) v0 M1 hq (by omega) (by omega) (by omega) (by omega)
 have B2:=B1.step T2
 have n0:=q0 en S (CS.length+N.length) c.length
 generalize hR0:gen d (kid t 0) en S (CS.length+N.length) c.length=R0 at *
 obtain⟨x1,x2,x3⟩:=n0
 obtain⟨h3,k3,fv3,F3,w3,M3,T3⟩:=add_st e M2 hq (by simp;omega) 8 0
 have B3:=B2.step T3
 obtain⟨hE,k4,fv4,F4,w4,M4,T4⟩:=nr (kid t 1) en oe (by omega) (cQ ha i1) v1 M3 hq (by omega) (by simp;omega) (by simp;omega) (by omega)
 have e1:CS.length+(N++R0.2.1).length=CS.length+N.length+R0.2.1.length:=by simp;omega
 have e2:(c++R0.2.2++[(⟨8,0⟩:Ins)]).length=c.length+(R0.2.2++[(⟨8,0⟩:Ins)]).length:=by simp<;>omega
 rw[e1,e2]at M4
 have g2:=B2.g
 have g3:=B3.g
 have AA:=((T1.trans T2).trans T3).trans T4
 have K:evL E 45 [.ptr (some (m,0)),.int .i64 ↑q,t.av,.sl oe (strs en)] h=some (.tup [],hE):=by
  rw[bE E (e.no 45 (by simp)) (by rw[e.fn];kernel_rfl) body45 _ _ rfl]
  simp only[aC,sub,Tryz.f45]
  simp only[oFun,oLet,oRec,oIf,dV,oTry,oSeq]at c0 c1 c2 c3 c4 c5 c6
  simp only[oInt,oBool,oUnit,oNil,oStr,oVar]at l1 l2 l3 l4 l5 l6
  rw[bZ t]
  simp only[bZ (kid t 0)]at a0 k2
  simp only[bZ (kid t 1)]at a1 k4
  simp only[boxed,ndC]at k2 g2 g3
  simp[EVT,aT,TYC,hty,hpl,bytesOf,l1,l2,l3,l4,l5,l6,c0,c1,c2,c3,c4,c5,c6,g1,a0,a1,k2,k3,k4,g2,g3]
 have G:gen (d+1) t en S (CS.length+N.length) c.length=cI (cI (gen d (kid t 0) en S (CS.length+N.length) c.length) (gB ⟨8,0⟩) (CS.length+N.length) c.length) (gen d (kid t 1) en) (CS.length+N.length) c.length:=by simp only[gen,hg,c0,c1,c2,c3,c4,c5,c6,cond_true,cond_false]
 unfold fN
 rw[G]
 simp only[cI,gB,hR0,List.append_nil]
 simp only[List.append_assoc]at M4 ⊢
 exact⟨hE,K,fv4,F4,w4,M4,AA⟩
end
end Go.Proofs.YtogjplcnmibnlaaGreatDoor.Env
namespace Go.Proofs.YtogjplcnmibnlaaGreatDoor.Env
open Go.Ev Go.Ev.Nd
theorem loop45 {E:Env} (e:EOk14 E) {d:Nat} (nr:NR14 E d) {m b q:Nat} {t:Nd} {oe:Go.Ev.Own} {en:List Str} {CS:List (List Ins)} (hq:q<CS.length) (ht:t.dep≤d+1) (ha:arOk t=true) (hv:∀ k∈t.kids,Vd d k en) (hl:t.kids.length≤9223372036854775807) (b4':en.length+2*t.dep≤1000000) :
  ∀ (l:List Nd) (i:Nat) {tm:Tm} {h:H} {x:Option (Ex × Tm × H)} {fv:AV} {F:List AV} {w:Go.Ev.Own} {S:List Str} {c:List Ins} {N:List (List Ins)},cdL E 45 143 (.loop b45_0) tm h=x→l=t.kids.drop i→i≤t.kids.length →
  tm.get 0=some (.ptr (some (m,0)))→tm.get 1=some (.int .i64 ↑q)→tm.get 3=some (.sl oe (strs en))→tm.get 6=some (.ptr (some (b,0)))→tm.get 10=some (.int .i64 ↑i) →
  Bx h b t (TR m fv F w)→MR h m fv F w S (Sta CS q c N)→S.length+dU l≤1000000→CS.length+N.length+dU l≤1000000→c.length+8*dU l≤1000000 →
  ∃ tm' h',x=some (.exit 1,tm',h')∧(∃ fv' F' w',MR h' m fv' F' w' (genK (gen d) en l S (CS.length+N.length) c.length).1 (Sta CS q (c++(genK (gen d) en l S (CS.length+N.length) c.length).2.2) (N++(genK (gen d) en l S (CS.length+N.length) c.length).2.1))∧StR h (TR m fv F w) (TR m fv' F' w') h') ∧
   tm'.get 0=some (.ptr (some (m,0)))∧tm'.get 1=some (.int .i64 ↑q)∧tm'.get 6=some (.ptr (some (b,0)))
 | [],i,tm,h,x,fv,F,w,S,c,N,hx,hd,hi,h0,h1,h3,h6,h10,B,M,s1,s2,s3=>by
  have hlen:=dnil hd hi
  have hty:=e.ty
  have hpl:=e.pl
  have g:=B.g
  simp only[ndC]at g
  have hal:=avs_len t.kids
  obtain⟨R,hR,hx⟩:=aS hx
  simp[b45_0,aK,Tryz.f45,loops,EVT,bC,aX,bA,bT,aL,aN,aQ,aV,aG,aZ,val,aH,bN,bP,aU,aP,bK,TYC,lp,hty,h6,h10,g,hlen,hal,dZ]at hx
  refine⟨_,h,by rw[←hx],⟨fv,F,w,?_,.grow (Nat.le_refl _) fun _ _=>rfl⟩,by simp[T.aA,h0],by simp[T.aA,h1],by simp[T.aA,h6]⟩
  simp only[genK,List.append_nil]
  exact M
 | k::l,i,tm,h,x,fv,F,w,S,c,N,hx,hdr,hi,h0,h1,h3,h6,h10,B,M,s1,s2,s3=>by
  obtain⟨hlt,hct,hd'⟩:=gC hdr
  have hty:=e.ty
  have hpl:=e.pl
  have hat:=cX hct
  have hkm:=List.mem_of_getElem? hct
  have hal:=avs_len t.kids
  have hlt':=eR hlt
  have hw:=cH (i:=i) (by omega)
  have hdk:=dep_mem hkm
  have hdt:=dep_eq t
  simp only[dU]at s1 s2 s3
  have n0:=cW d k en S (CS.length+N.length) c.length ((dQ ha).2 k hkm)
  have g:=B.g
  simp only[ndC]at g
  obtain⟨h2,k2,fv2,F2,w2,M2,T2⟩:=nr k en oe (by omega) ((dQ ha).2 k hkm) (hv k hkm) M hq (by omega) (by omega) (by omega) (by omega)
  have B2:=B.step T2
  obtain⟨R,hR,hx⟩:=aS hx
  rw[bZ k]at hat k2
  simp[b45_0,aK,Tryz.f45,loops,EVT,bC,aX,bA,bT,aL,aN,aQ,aV,AV.cells,aG,aZ,val,aH,bN,bP,aU,bJ,aR,aP,bK,TYC,lp,hty,h0,h1,h3,h6,h10,g,hal,hlt',hw,hat,k2]at hx
  rw[hR]at hx
  have e1:CS.length+(N++(gen d k en S (CS.length+N.length) c.length).2.1).length=CS.length+N.length+(gen d k en S (CS.length+N.length) c.length).2.1.length:=by simp;omega
  obtain⟨tm',h',ex,⟨fv',F',w',M',T'⟩,t0,t1,t6⟩:=loop45 (oe:=oe) e nr hq ht ha hv hl b4' l (i+1) (fv:=fv2) (F:=F2) (w:=w2) (c:=c++(gen d k en S (CS.length+N.length) c.length).2.2) (N:=N++(gen d k en S (CS.length+N.length) c.length).2.1) hx hd' hlt (by simp[T.aA,h0]) (by simp[T.aA,h1]) (by simp[T.aA,h3]) (by simp[T.aA,h6]) (by simp[T.aA]) B2 M2 (by have:=n0.1;omega) (by rw[e1];have:=n0.2.1;omega) (by have:=n0.2.2;simp;omega)
  rw[e1,List.length_append,List.append_assoc,List.append_assoc]at M'
  exact⟨tm',h',ex,⟨fv',F',w',M',T2.trans T'⟩,t0,t1,t6⟩
section
variable {E:Env} {h:H} {m:Nat} {fv:AV} {F:List AV} {w:Go.Ev.Own} {S:List Str} {CS:List (List Ins)} {q:Nat} {c:List Ins} {N:List (List Ins)} {t:Nd} {oe:Go.Ev.Own} {en:List Str} {d:Nat}
theorem node14_rest (e:EOk14 E) (nr:NR14 E d) (M:MR h m fv F w S (Sta CS q c N)) (hq:q<CS.length) (ht:t.dep≤d+1) (ha:arOk t=true) (hv:Vd (d+1) t en) (b1:S.length+t.size≤1000000) (b2:CS.length+N.length+t.size≤1000000) (b3:c.length+8*t.size≤1000000) (b4:en.length+2*t.dep≤1000000) (hg:dL t.op t.name t.n en S=none)
  (c0:aB t.op oFun=false) (c1:aB t.op oLet=false) (c2:aB t.op oRec=false) (c3:aB t.op oIf=false) (c4:aB t.op dV=false) (c5:aB t.op oTry=false) (c6:aB t.op oSeq=false) :
  fN E 45 h m fv F w CS q c N t oe en (gen (d+1) t en S (CS.length+N.length) c.length):=by
 have hs:=size_eq t
 have hty:=e.ty
 have hpl:=e.pl
 obtain⟨M1,T1,B1⟩:=M.boxed t
 obtain⟨l1,l2,l3,l4,l5,l6⟩:=leaf_no hg
 have hop:opJ t.op=opI t.op:=hv.2.1 (by simp[arity,c0,c1,c2,c3,c4,c5,c6]) fun S=>by simp[dL,l1,l2,l3,l4,l5,l6]
 have hvk:∀ k∈t.kids,Vd d k en:=fun k hk=>by
  obtain⟨i,hi⟩:=List.mem_iff_getElem?.1 hk
  have hlt:=(List.getElem?_eq_some_iff.1 hi).1
  have:=hv.2.2 i hlt
  have e1:kid t i=k:=by
   have:=dG hlt
   rw[hi]at this
   injection this with this
   exact this.symm
  rw[e1]at this
  simpa[bi,c0,c1,c2,c3,c4,c5]using this
 have hks:∀ k∈t.kids,∀ en S nf pos,fA S k.size (8*k.size) (gen d k en S nf pos):=fun k hk en S nf pos=>cW d k en S nf pos ((dQ ha).2 k hk)
 have n0:=fA.genK (en:=en) t.kids hks S (CS.length+N.length) c.length
 have hkl:t.kids.length≤dU t.kids:=by
  generalize t.kids=L
  induction L with
  | nil=>simp[dU]
  | cons a L ih=>have:=size_eq a;simp only[List.length_cons,dU];omega
 have G:gen (d+1) t en S (CS.length+N.length) c.length=cI (genK (gen d) en t.kids S (CS.length+N.length) c.length) (gB ⟨opI t.op,0⟩) (CS.length+N.length) c.length:=by simp only[gen,hg,c0,c1,c2,c3,c4,c5,c6,cond_false]
 unfold fN
 rw[G]
 simp only[cI,gB,List.append_nil]
 obtain⟨y,hy⟩:∃ y,evL E 45 [.ptr (some (m,0)),.int .i64 ↑q,t.av,.sl oe (strs en)] h=y:=⟨_,rfl⟩
 rw[hy]
 rw[bE E (e.no 45 (by simp)) (by rw[e.fn];kernel_rfl) body45 _ _ rfl]at hy
 simp only[aC,sub,Tryz.f45]at hy
 simp only[oFun,oLet,oRec,oIf,dV,oTry,oSeq]at c0 c1 c2 c3 c4 c5 c6
 simp only[oInt,oBool,oUnit,oNil,oStr,oVar]at l1 l2 l3 l4 l5 l6
 rw[bZ t]at hy
 simp[EVT,aT,bC,aX,bA,bT,aL,aN,aQ,bX,aV,AV.cells,aG,aZ,val,aH,bN,cP,aU,aO,bI,recheck,H.new,setArgs,bQ,bS,bJ,aR,TYC,hty,hpl,bytesOf,l1,l2,l3,l4,l5,l6,c0,c1,c2,c3,c4,c5,c6]at hy
 generalize hx:cdL E 45 143 (.loop b45_0) _ _=x at hy
 obtain⟨tm,h3,e1,⟨fv3,F3,w3,M3,T3⟩,t0,t1,t6⟩:=loop45 (oe:=oe) (m:=m) (b:=h.nx) (q:=q) (t:=t) (h:=boxed h t) e nr hq ht ha hvk (by omega) b4 t.kids 0 hx rfl (Nat.zero_le _) (by simp[T.aA]) (by simp[T.aA]) (by simp[T.aA]) (by simp[T.aA]) (by simp[T.aA]) B1 M1 (by omega) (by omega) (by omega)
 have B3:=B1.step T3
 have g3:=B3.g
 simp only[ndC]at g3
 obtain⟨h4,k4,fv4,F4,w4,M4,T4⟩:=add_st e M3 hq (by have:=n0.2.2;simp;omega) (opI t.op) 0
 have k84:=fun h=>op84_run (E:=E) hty hpl (e.no 84 (by simp)) e.fn t.op h
 rw[hop]at k84
 rw[List.append_assoc]at M4
 refine⟨h4,?_,fv4,F4,w4,M4,(T1.trans T3).trans T4⟩
 subst e1
 simp[EVT,t0,t1,t6,g3,k84,k4]at hy
 rw[←hy]
theorem nr14_step (e:EOk14 E) (nr:NR14 E d):NR14 E (d+1):=by
 intro t en oe h m fv F w S CS q c N ht ha hv M hq s1 s2 s3 s4
 have hs:=size_eq t
 cases hg:dL t.op t.name t.n en S with
 | some p=>
  obtain⟨S',i⟩:=p
  have G:gen (d+1) t en S (CS.length+N.length) c.length=(S',[],[i]):=by simp only[gen,hg]
  rw[G]
  exact node14_leaf e M hq hv.1 (by omega) (by omega) (by omega) hg
 | none=>
  cases c0:aB t.op oFun with
  | true=>exact node14_fun e nr M hq ht ha hv s1 s2 s3 s4 hg c0
  | false=>
  cases c1:aB t.op oLet with
  | true=>exact node14_let e nr M hq ht ha hv s1 s2 s3 s4 hg c0 c1
  | false=>
  cases c2:aB t.op oRec with
  | true=>exact node14_rec e nr M hq ht ha hv s1 s2 s3 s4 hg c0 c1 c2
  | false=>
  cases c3:aB t.op oIf with
  | true=>exact node14_if e nr M hq ht ha hv s1 s2 s3 s4 hg c0 c1 c2 c3
  | false=>
  cases c4:aB t.op dV with
  | true=>exact node14_match e nr M hq ht ha hv s1 s2 s3 s4 hg c0 c1 c2 c3 c4
  | false=>
  cases c5:aB t.op oTry with
  | true=>exact node14_try e nr M hq ht ha hv s1 s2 s3 s4 hg c0 c1 c2 c3 c4 c5
  | false=>
  cases c6:aB t.op oSeq with
  | true=>exact node14_seq e nr M hq ht ha hv s1 s2 s3 s4 hg c0 c1 c2 c3 c4 c5 c6
  | false=>exact node14_rest e nr M hq ht ha hv s1 s2 s3 s4 hg c0 c1 c2 c3 c4 c5 c6
theorem nr14_all (e:EOk14 E):∀ d,NR14 E d
 | 0=>fun t en oe h m fv F w S CS q c N ht=>by have:=dep_pos t;omega
 | d+1=>nr14_step e (nr14_all e d)
end
end Go.Proofs.YtogjplcnmibnlaaGreatDoor.Env
namespace Go.Proofs.YtogjplcnmibnlaaGreatDoor.Env
open Go.Ev
theorem known0:resIs true (cG env1 300 11 [] ⟨.e,0⟩)=true:=by kernel_rfl
noncomputable def env2:Env:=bH env1 11 (primBool true)
theorem env2_ok:dW Tryz.prog env2:=bD env1_ok (primBool_ok env1_ok known0)
end Go.Proofs.YtogjplcnmibnlaaGreatDoor.Env
namespace Go.Proofs.YtogjplcnmibnlaaGreatDoor.Env
open Go.Ev Go.ChangeShapes Go.WideShapes Go.ChangeAt Go.RowKit
abbrev laidL:List (String × DataW Unit):=[("unicode.White_Space",Rows.laid_unicode_White_Space),("strings.asciiSpace",Rows.laid_strings_asciiSpace)]
theorem own:ownKnob Tryz.prog.godebug=none:=by kernel_rfl
theorem laidOut:laidOutB Tryz.prog=true:=by kernel_rfl
theorem door_met (os:Os) (args:Array Value):laidMetH Tryz.prog laidL ((World.doorLaid Tryz.prog 4000 os).forCall (fun _ _=>0) ⟨#[],args,[]⟩).memory:=
 laidMetH_of_parts3 (fuel:=8) (laidMet_of_run' 8 (by kernel_rfl) (by kernel_rfl)) (by kernel_rfl) (by kernel_rfl)
theorem shaped (os:Os) (args:Array Value):((World.doorLaid Tryz.prog 4000 os).forCall (fun _ _=>0) ⟨#[],args,[]⟩).Shaped Tryz.prog:=World.shaped_of_RefB (by kernel_rfl) (by kernel_rfl)
theorem gA:Tryz.prog.globalNamed "strings.asciiSpace" = some 0:=by kernel_rfl
theorem tA:(Tryz.prog.globals[0]?).map (·.type)=some 164:=by kernel_rfl
theorem tab_of_laid {W:World} (h:laidMetH Tryz.prog laidL W):Lib.TabIs Tryz.prog W "strings.asciiSpace" .u8 Lib.asciiSpaceTab:=by
 rw[MakeChecks.laidMetH_plain _ _ _ (by kernel_rfl)]at h
 obtain⟨ps,⟨g0,t0,cs0,f0,p0,q0,hg0,ht0,hv0,hd0,⟨g1,t1,cs1,f1,p1,q1,hg1,ht1,hv1,hd1,_,_⟩,_⟩,_,_⟩:=h
 obtain rfl:=Option.some.inj (gA.symm.trans hg1)
 obtain rfl:=Option.some.inj (tA.symm.trans ht1)
 unfold Lib.TabIs
 rw[hv1]
 have e:Rows.laid_strings_asciiSpace (H:=Unit)=Lib.tabData .u8 Lib.asciiSpaceTab:=by kernel_rfl
 rw[e]at hd1
 rw[←Lib.cells_of_tab Tryz.underlying164 Tryz.underlying5 (by kernel_rfl) (by kernel_rfl) hd1]
theorem tab_stays {W W':World} (h:Lib.TabIs Tryz.prog W "strings.asciiSpace" .u8 Lib.asciiSpaceTab) (e:W'.heap[(0:Nat)]?=W.heap[(0:Nat)]?):Lib.TabIs Tryz.prog W' "strings.asciiSpace" .u8 Lib.asciiSpaceTab:=by
 unfold Lib.TabIs World.var? at h ⊢
 rw[gA]at h ⊢
 simp only[Option.bind_some]at h ⊢
 rw[e]
 exact h
theorem ka_of_laid {W:World} (h:laidMetH Tryz.prog laidL W):∀ p∈(default:KA0).ka,p.2 W.heap[p.1]?∧p.1<W.heap.size:=by
 have ht:=tab_of_laid h
 intro p hp
 obtain rfl:p=_:=List.mem_singleton.1 hp
 refine⟨fun w' e=>tab_stays ht e,?_⟩
 unfold Lib.TabIs World.var? at ht
 rw[gA]at ht
 simp only[Option.bind_some]at ht
 show 0<W.heap.size
 cases hs:W.heap[(0:Nat)]? with
 | none=>rw[hs]at ht;simp at ht
 | some o=>exact(Array.getElem?_eq_some_iff.1 hs).1
end Go.Proofs.YtogjplcnmibnlaaGreatDoor.Env
namespace Go.Proofs.YtogjplcnmibnlaaGreatDoor.Env
open Go.Ev Go.Ev.Nd Go.ChangeShapes Go.WideShapes Go.ChangeAt Go.RowKit
abbrev NB:Nat:=140737488351232
end Go.Proofs.YtogjplcnmibnlaaGreatDoor.Env
