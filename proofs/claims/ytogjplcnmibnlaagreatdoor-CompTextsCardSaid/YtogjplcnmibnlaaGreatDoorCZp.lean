/- Two programs of one text are the same. -/
import Derived.Test.YtogjplcnmibnlaaGreatDoorCZm
set_option autoImplicit false
set_option maxRecDepth 100000
set_option maxHeartbeats 8000000
set_option linter.unusedSimpArgs false
set_option linter.unusedVariables false
namespace Go.Proofs.YtogjplcnmibnlaaGreatDoor.Env
open Go.Ev Go.Ev.Nd
attribute [local simp] bC aX bA bT aL aN aQ bX bF bW dE cD aV AV.cells aG aZ val aH bN bP cP bG eI aU aO aM bY bI recheck H.new H.put cT aY bB AV.one setArgs bQ bS bJ aR aP bK
noncomputable def b10_0:Code:=aK Tryz.f10 0
noncomputable def b10_1:Code:=aK Tryz.f10 1
noncomputable def b10_2:Code:=aK Tryz.f10 2
theorem body10:Tryz.f10.body=some (.seq (aC Tryz.f10 [0]) (.seq (aC Tryz.f10 [1,0]) (.seq (.seq (aC Tryz.f10 [1,1,0,0]) (.block 0 (.loop b10_0))) (.seq (.seq (aC Tryz.f10 [1,1,1,0,0]) (.block 2 (.loop b10_1))) (aC Tryz.f10 [1,1,1,1]))))):=rfl
theorem lb10_1:b10_1=(.seq (aC Tryz.f10 [1,1,1,0,1,0,0,0]) (.seq (.block 3 (.seq (aC Tryz.f10 [1,1,1,0,1,0,0,1,0,0,0]) (.seq (aC Tryz.f10 [1,1,1,0,1,0,0,1,0,0,1,0]) (.block 4 (.loop b10_2))))) (aC Tryz.f10 [1,1,1,0,1,0,0,1,1]))):=rfl
theorem insC_at:∀ (l:List Ins) (j:Nat) (x:Ins),l[j]?=some x→(insC l).drop (j*2) = .int .i64 x.op :: .int .i64 x.n::insC (l.drop (j+1))
 | [],j,x,h=>by simp at h
 | i::l,0,x,h=>by simp at h;subst h;simp[insC]
 | i::l,j+1,x,h=>by
  have:=insC_at l j x (by simpa using h)
  rw[show(j+1)*2=j*2+1+1 by omega]
  simp only[insC,List.drop_succ_cons,this]
structure SameR (h:H) (b2 b3:Nat) (d:Int) (fv1 fv2:AV) (F1 F2:List AV) (w1 w2:Go.Ev.Own) (C:List (List Ins)) (S:List Str):Prop where
 g2:h.t.get b2=some (.cells [.int .i64 d,fv1,.sl w1 (strs S)])
 g3:h.t.get b3=some (.cells [.int .i64 d,fv2,.sl w2 (strs S)])
 r1:FunsR h fv1 F1
 r2:FunsR h fv2 F2
 l1:F1.length=C.length
 l2:F2.length=C.length
 c1:∀ (i:Nat) x c,F1[i]?=some x→C[i]?=some c→fI h x c
 c2:∀ (i:Nat) x c,F2[i]?=some x→C[i]?=some c→fI h x c
theorem nb_self (a:List Nat):aB a a=true:=by rw[fX];simp
theorem loop10_0 {E:Env} (e:EOf E) {b2 b3:Nat} {d:Int} {fv1 fv2:AV} {F1 F2:List AV} {w1 w2:Go.Ev.Own} {C:List (List Ins)} {S:List Str} {h:H} (s:SameR h b2 b3 d fv1 fv2 F1 F2 w1 w2 C S) (hS:S.length≤1000000):∀ (l:List Str) (i:Nat) {tm:Tm} {x:Option (Ex × Tm × H)},cdL E 10 96 (.loop b10_0) tm h=x→l=S.drop i→i≤S.length →
  tm.get 2=some (.ptr (some (b2,0)))→tm.get 3=some (.ptr (some (b3,0)))→tm.get 5=some (.int .i64 ↑i) →
  ∃ tm',x=some (.exit 0,tm',h)∧tm'.get 2=some (.ptr (some (b2,0)))∧tm'.get 3=some (.ptr (some (b3,0)))
 | [],i,tm,x,hx,hd,hi,h2,h3,h5=>by
  have hlen:=dnil hd hi
  have hty:=e.ty
  have hpl:=e.pl
  have hil:=cA S
  have g2:=s.g2
  have g3:=s.g3
  obtain⟨R,hR,hx⟩:=aS hx
  simp[b10_0,aK,Tryz.f10,loops,EVT,TYC,lp,hty,h2,h5,g2,hlen,hil,dZ]at hx
  exact⟨_,by rw[←hx],by simp[T.aA,h2],by simp[T.aA,h3]⟩
 | c::l,i,tm,x,hx,hd,hi,h2,h3,h5=>by
  obtain⟨hlt,hc,hd'⟩:=gC hd
  have hty:=e.ty
  have hpl:=e.pl
  have hil:=cA S
  have hat:=strs_get hc
  have g2:=s.g2
  have g3:=s.g3
  have hb:=nb_self c.s
  obtain⟨R,hR,hx⟩:=aS hx
  have hlt':=eR hlt
  have hw:=cH (i:=i) (by omega)
  simp[b10_0,aK,Tryz.f10,loops,EVT,TYC,lp,hty,hpl,h2,h3,h5,g2,g3,hlt',hil,hat,hb,hw]at hx
  rw[hR]at hx
  exact loop10_0 e s hS l (i+1) hx hd' hlt (by simp[T.aA,h2]) (by simp[T.aA,h3]) (by simp[T.aA])
theorem loop10_2 {E:Env} (e:EOf E) {b2 b3 k n id1 id2:Nat} {d:Int} {F1 F2:List AV} {w1 w2:Go.Ev.Own} {S:List Str} {c:List Ins} {v1 v2:AV} {h:H}
  (g2:h.t.get b2=some (.cells [.int .i64 d,.rs id1 n true,.sl w1 (strs S)])) (g3:h.t.get b3=some (.cells [.int .i64 d,.rs id2 n true,.sl w2 (strs S)])) (r1:h.t.get id1=some (.row n 54 1 F1)) (r2:h.t.get id2=some (.row n 54 1 F2)) (l1:F1.length=n) (l2:F2.length=n) (hk:k<n)
  (a1:F1[k]?=some v1) (a2:F2[k]?=some v2) (c1:fI h v1 c) (c2:fI h v2 c) (hc:c.length≤1000000):∀ (l:List Ins) (i:Nat) {tm:Tm} {x:Option (Ex × Tm × H)},cdL E 10 96 (.loop b10_2) tm h=x→l=c.drop i→i≤c.length →
  tm.get 2=some (.ptr (some (b2,0)))→tm.get 3=some (.ptr (some (b3,0)))→tm.get 6=some (.int .i64 ↑k)→tm.get 7=some (.int .i64 ↑i) →
  ∃ tm',x=some (.exit 4,tm',h)∧tm'.get 2=some (.ptr (some (b2,0)))∧tm'.get 3=some (.ptr (some (b3,0)))∧tm'.get 6=some (.int .i64 ↑k)
 | [],i,tm,x,hx,hd,hi,h2,h3,h6,h7=>by
  have hlen:=dnil hd hi
  have hty:=e.ty
  have hpl:=e.pl
  have hbl:Nat.blt k n=true:=cR.2 hk
  have hle:k+1≤n:=hk
  have hkF:k<F1.length:=by omega
  have hve:F1[k]=v1:=(List.getElem?_eq_some_iff.1 a1).2
  have hcell:=c1.cell
  have hone:=c1.one
  obtain⟨R,hR,hx⟩:=aS hx
  rcases c1 with ⟨rfl,rfl⟩|⟨id',rfl,hg',hi'⟩
  ·have h00:ltI ↑i 0=false:=by rw[dI];simp
   simp[b10_2,aK,Tryz.f10,loops,EVT,TYC,lp,hty,h2,h6,h7,g2,r1,l1,hk,hle,hve,h00]at hx
   exact⟨_,by rw[←hx],by simp[T.aA,h2],by simp[T.aA,h3],by simp[T.aA,h6]⟩
  ·simp[b10_2,aK,Tryz.f10,loops,EVT,TYC,lp,hty,h2,h6,h7,g2,r1,l1,hk,hle,hve,hlen,dZ]at hx
   exact⟨_,by rw[←hx],by simp[T.aA,h2],by simp[T.aA,h3],by simp[T.aA,h6]⟩
 | y::l,i,tm,x,hx,hd,hi,h2,h3,h6,h7=>by
  obtain⟨hlt,hcy,hd'⟩:=gC hd
  have hty:=e.ty
  have hpl:=e.pl
  have hbl:Nat.blt k n=true:=cR.2 hk
  have hle:k+1≤n:=hk
  have hkF:k<F1.length:=by omega
  have hkF2:k<F2.length:=by omega
  have hve:F1[k]=v1:=(List.getElem?_eq_some_iff.1 a1).2
  have hve2:F2[k]=v2:=(List.getElem?_eq_some_iff.1 a2).2
  obtain⟨i1,e1,hg1,hi1⟩:∃ id,v1 = .rs id c.length true∧h.t.get id=some (.row c.length 62 2 (insC c))∧id<h.nx:=by
   rcases c1 with ⟨_,e⟩|h
   ·rw[e]at hlt;simp at hlt
   ·exact h
  obtain⟨i2,e2,hg2,hi2⟩:∃ id,v2 = .rs id c.length true∧h.t.get id=some (.row c.length 62 2 (insC c))∧id<h.nx:=by
   rcases c2 with ⟨_,e⟩|h
   ·rw[e]at hlt;simp at hlt
   ·exact h
  subst e1
  subst e2
  have hat:=insC_at c i y hcy
  have hlen2:=insC_len c
  have hle2:i*2+2≤c.length*2:=by omega
  have hblt:Nat.blt i c.length=true:=cR.2 hlt
  have q1:aE y.op y.op=true:=dN.2 rfl
  have q2:aE y.n y.n=true:=dN.2 rfl
  obtain⟨R,hR,hx⟩:=aS hx
  have hlt':=eR hlt
  have hw:=cH (i:=i) (by omega)
  simp[b10_2,aK,Tryz.f10,loops,EVT,TYC,lp,hty,hpl,h2,h3,h6,h7,g2,g3,r1,r2,l1,l2,hk,hle,hve,hve2,hlt',hlt,hg1,hg2,hlen2,hle2,hat,hw,evFlat,cellEq,q1,q2]at hx
  rw[hR]at hx
  exact loop10_2 e g2 g3 r1 r2 l1 l2 hk a1 a2 c1 c2 hc l (i+1) hx hd' hlt (by simp[T.aA,h2]) (by simp[T.aA,h3]) (by simp[T.aA,h6]) (by simp[T.aA])
theorem loop10_1 {E:Env} (e:EOf E) {b2 b3:Nat} {d:Int} {fv1 fv2:AV} {F1 F2:List AV} {w1 w2:Go.Ev.Own} {C:List (List Ins)} {S:List Str} {h:H} (s:SameR h b2 b3 d fv1 fv2 F1 F2 w1 w2 C S) (hC:C.length≤1000000) (hCl:∀ c∈C,c.length≤1000000):∀ (l:List (List Ins)) (i:Nat) {tm:Tm} {x:Option (Ex × Tm × H)},cdL E 10 96 (.loop b10_1) tm h=x→l=C.drop i→i≤C.length →
  tm.get 2=some (.ptr (some (b2,0)))→tm.get 3=some (.ptr (some (b3,0)))→tm.get 6=some (.int .i64 ↑i) →
  ∃ tm',x=some (.exit 2,tm',h)
 | [],i,tm,x,hx,hd,hi,h2,h3,h6=>by
  have hlen:=dnil hd hi
  have hty:=e.ty
  have hpl:=e.pl
  have g2:=s.g2
  have g3:=s.g3
  obtain⟨R,hR,hx⟩:=aS hx
  rw[lb10_1]at hx
  simp only[aC,sub,Tryz.f10]at hx
  have hl1:=s.l1
  rcases s.r1 with ⟨rfl,e1⟩|⟨id,rfl,hg,_⟩
  ·have:C.length=0:=by rw[←hl1,e1];rfl
   have h00:ltI ↑i 0=false:=by rw[dI];simp
   simp[EVT,TYC,lp,hty,h2,h6,g2,h00]at hx
   exact⟨_,by rw[←hx]⟩
  ·rw[hl1]at g2
   simp[EVT,TYC,lp,hty,h2,h6,g2,hlen,dZ]at hx
   exact⟨_,by rw[←hx]⟩
 | c::l,i,tm,x,hx,hd,hi,h2,h3,h6=>by
  obtain⟨hlt,hc,hd'⟩:=gC hd
  have hty:=e.ty
  have hpl:=e.pl
  have g2:=s.g2
  have g3:=s.g3
  have hl1:=s.l1
  have hl2:=s.l2
  obtain⟨id1,e1,hg1,_⟩:∃ id,fv1 = .rs id F1.length true∧h.t.get id=some (.row F1.length 54 1 F1)∧id<h.nx:=by
   rcases s.r1 with ⟨_,e⟩|h
   ·rw[e]at hl1;simp at hl1;omega
   ·exact h
  obtain⟨id2,e2,hg2,_⟩:∃ id,fv2 = .rs id F2.length true∧h.t.get id=some (.row F2.length 54 1 F2)∧id<h.nx:=by
   rcases s.r2 with ⟨_,e⟩|h
   ·rw[e]at hl2;simp at hl2;omega
   ·exact h
  subst e1
  subst e2
  rw[hl1]at g2 hg1
  rw[hl2]at g3 hg2
  have hk1:i<F1.length:=by omega
  have hk2:i<F2.length:=by omega
  have a1:F1[i]?=some F1[i]:=List.getElem?_eq_getElem hk1
  have a2:F2[i]?=some F2[i]:=List.getElem?_eq_getElem hk2
  have c1:=s.c1 i _ c a1 hc
  have c2:=s.c2 i _ c a2 hc
  obtain⟨v1,hv1⟩:∃ v,F1[i]=v:=⟨_,rfl⟩
  obtain⟨v2,hv2⟩:∃ v,F2[i]=v:=⟨_,rfl⟩
  rw[hv1]at a1 c1
  rw[hv2]at a2 c2
  have hbl:Nat.blt i C.length=true:=cR.2 hlt
  have hle:i+1≤C.length:=hlt
  have hcell1:=c1.cell
  have hone1:=c1.one
  have hcell2:=c2.cell
  have hone2:=c2.one
  obtain⟨R,hR,hx⟩:=aS hx
  have hlt':=eR hlt
  have hw:=cH (i:=i) (by omega)
  have hq:aE ↑c.length ↑c.length=true:=dN.2 rfl
  rw[lb10_1]at hx
  simp only[aC,sub,Tryz.f10]at hx
  have go:∃ (tmA:Tm) (y:Option (Ex × Tm × H)),cdL E 10 96 (.loop b10_2) tmA h=y∧tmA.get 2=some (.ptr (some (b2,0)))∧tmA.get 3=some (.ptr (some (b3,0)))∧tmA.get 6=some (.int .i64 ↑i)∧tmA.get 7=some (.int .i64 ↑(0:Nat)) ∧
    ∀ tm',y=some (.exit 4,tm',h)→tm'.get 6=some (.int .i64 ↑i)→∃ tm2,x=R tm2 h∧tm2.get 6=some (.int .i64 ↑(i+1))∧tm2.get 2=tm'.get 2∧tm2.get 3=tm'.get 3:=by
   rcases c1 with ⟨rfl,rfl⟩|⟨i1,rfl,hgc1,_⟩
   ·rcases c2 with ⟨rfl,_⟩|⟨i2,rfl,hgc2,_⟩
    ·simp[EVT,TYC,lp,hty,hpl,h2,h3,h6,g2,g3,hlt',hg1,hg2,hl1,hl2,hlt,hle,hv1,hv2,aE]at hx
     generalize hy:cdL E 10 96 (.loop b10_2) _ _=y at hx
     exact⟨_,y,hy,by simp[T.aA,h2],by simp[T.aA,h3],by simp[T.aA,h6],by simp[T.aA],fun tm' ey g6=>by
      subst ey
      simp[EVT,g6,hw]at hx
      exact⟨_,hx.symm,by simp[T.aA],by simp[T.aA],by simp[T.aA]⟩⟩
    ·simp[EVT,TYC,lp,hty,hpl,h2,h3,h6,g2,g3,hlt',hg1,hg2,hl1,hl2,hlt,hle,hv1,hv2,aE]at hx
     generalize hy:cdL E 10 96 (.loop b10_2) _ _=y at hx
     exact⟨_,y,hy,by simp[T.aA,h2],by simp[T.aA,h3],by simp[T.aA,h6],by simp[T.aA],fun tm' ey g6=>by
      subst ey
      simp[EVT,g6,hw]at hx
      exact⟨_,hx.symm,by simp[T.aA],by simp[T.aA],by simp[T.aA]⟩⟩
   ·rcases c2 with ⟨rfl,e0⟩|⟨i2,rfl,hgc2,_⟩
    ·subst e0
     simp[EVT,TYC,lp,hty,hpl,h2,h3,h6,g2,g3,hlt',hg1,hg2,hl1,hl2,hlt,hle,hv1,hv2,aE]at hx
     generalize hy:cdL E 10 96 (.loop b10_2) _ _=y at hx
     exact⟨_,y,hy,by simp[T.aA,h2],by simp[T.aA,h3],by simp[T.aA,h6],by simp[T.aA],fun tm' ey g6=>by
      subst ey
      simp[EVT,g6,hw]at hx
      exact⟨_,hx.symm,by simp[T.aA],by simp[T.aA],by simp[T.aA]⟩⟩
    ·simp[EVT,TYC,lp,hty,hpl,h2,h3,h6,g2,g3,hlt',hg1,hg2,hl1,hl2,hlt,hle,hv1,hv2,hq]at hx
     generalize hy:cdL E 10 96 (.loop b10_2) _ _=y at hx
     exact⟨_,y,hy,by simp[T.aA,h2],by simp[T.aA,h3],by simp[T.aA,h6],by simp[T.aA],fun tm' ey g6=>by
      subst ey
      simp[EVT,g6,hw]at hx
      exact⟨_,hx.symm,by simp[T.aA],by simp[T.aA],by simp[T.aA]⟩⟩
  obtain⟨tmA,y,hy,t2,t3,t6,t7,fin⟩:=go
  obtain⟨tm',ey,u2,u3,u6⟩:=loop10_2 e g2 g3 hg1 hg2 hl1 hl2 hlt a1 a2 c1 c2 (hCl c (List.mem_of_getElem? hc)) c 0 hy rfl (Nat.zero_le _) t2 t3 t6 t7
  obtain⟨tm2,hx2,x6,x2,x3⟩:=fin tm' ey u6
  rw[hR]at hx2
  exact loop10_1 e s hC hCl l (i+1) hx2.symm hd' hlt (x2.trans u2) (x3.trans u3) x6
theorem same_run {E:Env} (e:EOf E) {h:H} {v1 v2:AV} {d:Int} {C:List (List Ins)} {S:List Str} (p1:PR h v1 d C S) (p2:PR h v2 d C S) (hC:C.length≤1000000) (hCl:∀ c∈C,c.length≤1000000) (hS:S.length≤1000000) :
  ∃ h',evL E 10 [v1,v2] h=some (.bool true,h')∧h.nx≤h'.nx∧∀ j,j<h.nx→h'.t.get j=h.t.get j:=by
 obtain⟨fv1,w1,F1,rfl,r1,l1,c1⟩:=p1
 obtain⟨fv2,w2,F2,rfl,r2,l2,c2⟩:=p2
 have hty:=e.ty
 have hpl:=e.pl
 have hil:=cA S
 have z2:h.nx≠h.nx+1:=by omega
 have z1:h.nx+1≠h.nx:=by omega
 obtain⟨h0,hh0⟩:∃ h0:H,h0=⟨(h.t.set h.nx (.cells [.int .i64 d,fv1,.sl w1 (strs S)])).set (h.nx+1) (.cells [.int .i64 d,fv2,.sl w2 (strs S)]),h.nx+1+1⟩:=⟨_,rfl⟩
 have old0:∀ j,j<h.nx→h0.t.get j=h.t.get j:=fun j hj=>by
  rw[hh0]
  simp only[T.aA]
  repeat rw[if_neg (by omega)]
 have n0:h.nx≤h0.nx:=by rw[hh0];simp only;omega
 have s:SameR h0 h.nx (h.nx+1) d fv1 fv2 F1 F2 w1 w2 C S:=⟨by rw[hh0];simp[T.aA],by rw[hh0];simp[T.aA],r1.mono n0 fun j _ hj=>old0 j hj,r2.mono n0 fun j _ hj=>old0 j hj,l1,l2,fun i x c hx hc=>(c1 i x c hx hc).mono n0 fun j _ hj=>old0 j hj,fun i x c hx hc=>(c2 i x c hx hc).mono n0 fun j _ hj=>old0 j hj⟩
 have hz:aE 0 0=true:=rfl
 have hq0:aE d d=true:=dN.2 rfl
 have hq1:aE ↑S.length ↑S.length=true:=dN.2 rfl
 have hq2:aE ↑C.length ↑C.length=true:=dN.2 rfl
 obtain⟨y,hy⟩:∃ y,evL E 10 [.agg [.int .i64 d,fv1,.sl w1 (strs S)],.agg [.int .i64 d,fv2,.sl w2 (strs S)]] h=y:=⟨_,rfl⟩
 rw[hy]
 rw[bE E (e.no 10 (by simp)) (by rw[e.fn];kernel_rfl) body10 _ _ rfl]at hy
 simp only[aC,sub,Tryz.f10]at hy
 have o1:=r1.one
 have o2:=r2.one
 refine⟨h0,?_,n0,old0⟩
 have fin:∀ tm0 x0,cdL E 10 96 (.loop b10_0) tm0 h0=x0→tm0.get 2=some (.ptr (some (h.nx,0)))→tm0.get 3=some (.ptr (some (h.nx+1,0)))→tm0.get 5=some (.int .i64 ↑(0:Nat))→∃ tm',x0=some (.exit 0,tm',h0)∧tm'.get 2=some (.ptr (some (h.nx,0)))∧tm'.get 3=some (.ptr (some (h.nx+1,0))):=fun tm0 x0 hx g2 g3 g5=>loop10_0 e s hS S 0 hx rfl (Nat.zero_le _) g2 g3 g5
 have fin1:∀ tm0 x0,cdL E 10 96 (.loop b10_1) tm0 h0=x0→tm0.get 2=some (.ptr (some (h.nx,0)))→tm0.get 3=some (.ptr (some (h.nx+1,0)))→tm0.get 6=some (.int .i64 ↑(0:Nat))→∃ tm',x0=some (.exit 2,tm',h0):=fun tm0 x0 hx g2 g3 g6=>loop10_1 e s hC hCl C 0 hx rfl (Nat.zero_le _) g2 g3 g6
 have ln1:(fv1 = .sl .full []∧C.length=0)∨∃ id,fv1 = .rs id C.length true:=by
  rcases r1 with ⟨e1,e2⟩|⟨id,e1,_⟩
  ·exact .inl ⟨e1,by rw[←l1,e2];rfl⟩
  ·exact .inr ⟨id,by rw[e1,l1]⟩
 have ln2:(fv2 = .sl .full []∧C.length=0)∨∃ id,fv2 = .rs id C.length true:=by
  rcases r2 with ⟨e1,e2⟩|⟨id,e1,_⟩
  ·exact .inl ⟨e1,by rw[←l2,e2];rfl⟩
  ·exact .inr ⟨id,by rw[e1,l2]⟩
 have go:∃ (tm0:Tm) (x0:Option (Ex × Tm × H)),cdL E 10 96 (.loop b10_0) tm0 h0=x0∧tm0.get 2=some (.ptr (some (h.nx,0)))∧tm0.get 3=some (.ptr (some (h.nx+1,0)))∧tm0.get 5=some (.int .i64 ↑(0:Nat))∧∀ tm',x0=some (.exit 0,tm',h0)→tm'.get 2=some (.ptr (some (h.nx,0)))→tm'.get 3=some (.ptr (some (h.nx+1,0)))→∃ (tm1:Tm) (x1:Option (Ex × Tm × H)),cdL E 10 96 (.loop b10_1) tm1 h0=x1∧tm1.get 2=some (.ptr (some (h.nx,0)))∧tm1.get 3=some (.ptr (some (h.nx+1,0)))∧tm1.get 6=some (.int .i64 ↑(0:Nat))∧∀ tm2,x1=some (.exit 2,tm2,h0)→y=some (.bool true,h0):=by
  rcases ln1 with ⟨rfl,hc1⟩|⟨id1,rfl⟩
  ·rcases ln2 with ⟨rfl,hc2⟩|⟨id2,rfl⟩
   ·simp[EVT,aT,TYC,hty,hil,hq0,hq1,hz]at hy
    generalize hx:cdL E 10 96 (.loop b10_0) _ _=x at hy
    rw[←hh0]at hx
    refine⟨_,x,hx,by simp[T.aA],by simp[T.aA],by simp[T.aA],fun tm' ex g2 g3 => ?_⟩
    subst ex
    simp at hy
    generalize hx1:cdL E 10 96 (.loop b10_1) _ _=x1 at hy
    refine⟨_,x1,hx1,by simp[T.aA,g2],by simp[T.aA,g3],by simp[T.aA],fun tm2 ex1 => ?_⟩
    subst ex1
    simp[EVT]at hy
    exact hy.symm
   ·have hC0:=List.eq_nil_of_length_eq_zero hc1
    subst hC0
    simp only[List.length_nil]at hh0
    simp[EVT,aT,TYC,hty,hil,hq0,hq1,hz]at hy
    generalize hx:cdL E 10 96 (.loop b10_0) _ _=x at hy
    rw[←hh0]at hx
    refine⟨_,x,hx,by simp[T.aA],by simp[T.aA],by simp[T.aA],fun tm' ex g2 g3 => ?_⟩
    subst ex
    simp at hy
    generalize hx1:cdL E 10 96 (.loop b10_1) _ _=x1 at hy
    refine⟨_,x1,hx1,by simp[T.aA,g2],by simp[T.aA,g3],by simp[T.aA],fun tm2 ex1 => ?_⟩
    subst ex1
    simp[EVT]at hy
    exact hy.symm
  ·rcases ln2 with ⟨rfl,hc2⟩|⟨id2,rfl⟩
   ·have hC0:=List.eq_nil_of_length_eq_zero hc2
    subst hC0
    simp only[List.length_nil]at hh0
    simp[EVT,aT,TYC,hty,hil,hq0,hq1,hz]at hy
    generalize hx:cdL E 10 96 (.loop b10_0) _ _=x at hy
    rw[←hh0]at hx
    refine⟨_,x,hx,by simp[T.aA],by simp[T.aA],by simp[T.aA],fun tm' ex g2 g3 => ?_⟩
    subst ex
    simp at hy
    generalize hx1:cdL E 10 96 (.loop b10_1) _ _=x1 at hy
    refine⟨_,x1,hx1,by simp[T.aA,g2],by simp[T.aA,g3],by simp[T.aA],fun tm2 ex1 => ?_⟩
    subst ex1
    simp[EVT]at hy
    exact hy.symm
   ·simp[EVT,aT,TYC,hty,hil,hq0,hq1,hq2]at hy
    generalize hx:cdL E 10 96 (.loop b10_0) _ _=x at hy
    rw[←hh0]at hx
    refine⟨_,x,hx,by simp[T.aA],by simp[T.aA],by simp[T.aA],fun tm' ex g2 g3 => ?_⟩
    subst ex
    simp at hy
    generalize hx1:cdL E 10 96 (.loop b10_1) _ _=x1 at hy
    refine⟨_,x1,hx1,by simp[T.aA,g2],by simp[T.aA,g3],by simp[T.aA],fun tm2 ex1 => ?_⟩
    subst ex1
    simp[EVT]at hy
    exact hy.symm
 obtain⟨tm0,x0,k0,g2,g3,g5,nxt⟩:=go
 obtain⟨tm',ex,u2,u3⟩:=fin tm0 x0 k0 g2 g3 g5
 obtain⟨tmB,xB,kB,gB2,gB3,gB6,nxtB⟩:=nxt tm' ex u2 u3
 obtain⟨tmC,exC⟩:=fin1 tmB xB kB gB2 gB3 gB6
 exact nxtB tmC exC
end Go.Proofs.YtogjplcnmibnlaaGreatDoor.Env
namespace Go.Proofs.YtogjplcnmibnlaaGreatDoor.Env
open Go.Ev Go.Ev.Nd
def leafO (o:List Nat):Bool:=aB o oInt||aB o oBool||aB o oUnit||aB o oNil||aB o oStr||aB o oVar
theorem leafO_some {o p:List Nat} {n:Int} {en S:List Str} (h:leafO o=true):(dL o p n en S).isSome=true:=by
 unfold leafO at h
 unfold dL
 cases c1:aB o oInt<;>cases c2:aB o oBool<;>cases c3:aB o oUnit<;>cases c4:aB o oNil<;>cases c5:aB o oStr<;>cases c6:aB o oVar<;>simp_all
def opChk (o:List Nat):Bool:=leafO o||((arity o).isSome||aE (opJ o) (opI o))
theorem chk0:Tr.ops0.all opChk=true:=by kernel_rfl
theorem chk1:Tr.ops1.all opChk=true:=by kernel_rfl
theorem chk2:Tr.ops2.all opChk=true:=by kernel_rfl
theorem chk3:Tr.ops3.all opChk=true:=by kernel_rfl
theorem chk_in {o:List Nat} {L:List (List Nat)} (h:Tr.inO o L=true) (hL:L.all opChk=true):opChk o=true:=by
 obtain⟨x,hx,e⟩:=List.any_eq_true.1 h
 rw[nb_of e]
 exact List.all_eq_true.1 hL x hx
theorem op_known {o:List Nat} {n:Nat} (h:Tr.dS o=↑n):opChk o=true:=by
 unfold Tr.dS at h
 cases h0:Tr.inO o Tr.ops0 with
 | true=>exact chk_in h0 chk0
 | false=>
 cases h1:Tr.inO o Tr.ops1 with
 | true=>exact chk_in h1 chk1
 | false=>
 cases h2:Tr.inO o Tr.ops2 with
 | true=>exact chk_in h2 chk2
 | false=>
 cases h3:Tr.inO o Tr.ops3 with
 | true=>exact chk_in h3 chk3
 | false=>
  rw[h0,h1,h2,h3]at h
  simp only[cond_false]at h
  omega
theorem free_kids {o p q:List Nat}:∀ (ks:List Nd) (i j:Nat) (k:Nd) (x:Str),ks[j]?=some k→x∈Tr.dM k→dA (Tr.bindT o p q ↑(i+j)) x.s=false→x∈Tr.eM o p q i ks
 | [],i,j,k,x,hk,hx,hb=>by simp at hk
 | a::l,i,0,k,x,hk,hx,hb=>by
  simp at hk
  subst hk
  simp only[Tr.eM,List.mem_append]
  refine .inl (List.mem_filter.2 ⟨hx,?_⟩)
  simp only[Nat.add_zero]at hb
  rw[hb];rfl
 | a::l,i,j+1,k,x,hk,hx,hb=>by
  simp only[Tr.eM,List.mem_append]
  refine .inr (free_kids l (i+1) j k x (by simpa using hk) hx ?_)
  rw[show i+1+j=i+(j+1) by omega]
  exact hb
theorem bind_bi (t:Nd) (i:Nat) (x:Str) (h:dA (Tr.bindT t.op t.name t.arg ↑i) x.s=true):dA (bi t i) x.s=true:=by
 have e1:∀ n:Nat,aE ↑i (↑n:Int)=Nat.beq i n:=fun n=>by
  cases hb:Nat.beq i n with
  | true=>rw[bV.1 hb];exact dN.2 rfl
  | false=>
   cases hc:aE ↑i (↑n:Int)with
   | false=>rfl
   | true=>
    have:=dN.1 hc
    have:i=n:=by omega
    rw[this,bV.2 rfl]at hb
    cases hb
 have i0:aE ↑i 0=Nat.beq i 0:=e1 0
 have i1:aE ↑i 1=Nat.beq i 1:=e1 1
 have i2:aE ↑i 2=Nat.beq i 2:=e1 2
 unfold Tr.bindT at h
 unfold bi
 rw[i0,i1,i2]at h
 cases c0:aB t.op oFun with
 | true=>rw[show Tr.funS=oFun from rfl,c0]at h;simpa using h
 | false=>
 rw[show Tr.funS=oFun from rfl,c0]at h
 cases c1:aB t.op oLet with
 | true=>
  have r:aB t.op Tr.recS=false:=by rw[nb_of c1];rfl
  have m:aB t.op Tr.dY=false:=by rw[nb_of c1];rfl
  have y:aB t.op Tr.tryS=false:=by rw[nb_of c1];rfl
  rw[show Tr.letS=oLet from rfl,c1,r,m,y]at h
  cases hb:Nat.beq i 1<;>rw[hb]at h<;>simpa using h
 | false=>
 rw[show Tr.letS=oLet from rfl,c1]at h
 cases c2:aB t.op oRec with
 | true=>
  have m:aB t.op Tr.dY=false:=by rw[nb_of c2];rfl
  have y:aB t.op Tr.tryS=false:=by rw[nb_of c2];rfl
  rw[show Tr.recS=oRec from rfl,c2,m,y]at h
  cases hb:Nat.beq i 1 with
  | true=>
   have:=bV.1 hb
   subst this
   rw[show Nat.beq 1 0=false from rfl]at h
   simpa using h
  | false=>
   cases hb0:Nat.beq i 0 with
   | true=>rw[hb0]at h;simp[dA]at h ⊢;exact h.symm
   | false=>rw[hb0]at h;simp[dA]at h ⊢;exact .inr h
 | false=>
 rw[show Tr.recS=oRec from rfl,c2]at h
 cases c3:aB t.op oIf with
 | true=>
  have m:aB t.op Tr.dY=false:=by rw[nb_of c3];rfl
  have y:aB t.op Tr.tryS=false:=by rw[nb_of c3];rfl
  rw[m,y]at h
  simp[dA]at h
 | false=>
 cases c4:aB t.op dV with
 | true=>
  have y:aB t.op Tr.tryS=false:=by rw[nb_of c4];rfl
  rw[show Tr.dY=dV from rfl,c4,y]at h
  cases hb:Nat.beq i 2 with
  | true=>rw[hb]at h;simp[dA]at h ⊢;exact h.symm
  | false=>rw[hb]at h;simp[dA]at h
 | false=>
 rw[show Tr.dY=dV from rfl,c4]at h
 cases c5:aB t.op oTry with
 | true=>
  rw[show Tr.tryS=oTry from rfl,c5]at h
  cases hb:Nat.beq i 1<;>rw[hb]at h<;>simpa using h
 | false=>
  rw[show Tr.tryS=oTry from rfl,c5]at h
  simp[dA]at h
theorem hasS_app (a b:List Str) (v:List Nat):dA (a++b) v=(dA a v||dA b v):=by simp[dA]
theorem vd_of:∀ (d:Nat) (t:Nd) (en:List Str),Tr.eachF t=true→fit t→(∀ x∈Tr.dM t,dA en x.s=true)→Vd d t en
 | 0,_,_,_,_,_=>trivial
 | d+1,t,en,he,hf,hx=>by
  have hfe:=(fit_iff t).1 hf
  have he':=he
  rw[Tr.eachF_eq]at he'
  simp only[Bool.and_eq_true]at he'
  obtain⟨hk,hn,hl⟩:=he'
  have hk:=dN.1 hk
  have hch:=op_known hk
  refine⟨⟨fun hu => ?_,fun hv => ?_⟩,fun har hg => ?_,fun i hi => ?_⟩
  ·simp only[Tr.namesR,Bool.and_eq_true]at hn
   have h3:=hn.2.2
   have:aB t.op Tr.intS=false∧aB t.op Tr.boolS=false:=by
    rcases Bool.or_eq_true_iff.1 hu with h|h
    ·rw[nb_of h];exact⟨rfl,rfl⟩
    ·rw[nb_of h];exact⟨rfl,rfl⟩
   unfold Tr.namN at h3
   rw[this.1,this.2]at h3
   exact dN.1 h3
  ·have:Tr.dM t=[⟨t.name⟩]:=by
    cases t with
    | mk o p q n a ks=>simp only[Nd.op]at hv;simp only[Tr.dM,Nd.name,show Tr.varS=oVar from rfl,hv,cond_true]
   exact hx ⟨t.name⟩ (by rw[this];simp)
  ·unfold opChk at hch
   have h1:leafO t.op=false:=by
    cases hlo:leafO t.op with
    | false=>rfl
    | true=>
     have:=leafO_some (p:=t.name) (n:=t.n) (en:=en) (S:=[]) hlo
     rw[hg []]at this
     cases this
   rw[h1,har]at hch
   simpa using dN.1 (by simpa using hch)
  ·have hm:=kid_mem hi
   refine vd_of d (kid t i) _ (Tr.eachL_iff.1 hl _ hm) (fits_mem.1 hfe.2.2.2.2.2.2 _ hm) fun x hxk => ?_
   rw[hasS_app]
   cases hb:dA (bi t i) x.s with
   | true=>rfl
   | false=>
    rw[Bool.false_or]
    refine hx x ?_
    have hnb:dA (Tr.bindT t.op t.name t.arg ↑i) x.s=false:=by
     cases hc:dA (Tr.bindT t.op t.name t.arg ↑i) x.s with
     | false=>rfl
     | true=>rw[bind_bi t i x hc]at hb;cases hb
    have hin:=free_kids (o:=t.op) (p:=t.name) (q:=t.arg) t.kids 0 i (kid t i) x (dG hi) hxk (by rw[Nat.zero_add];exact hnb)
    have hvar:aB t.op Tr.varS=false:=by
     cases hv:aB t.op Tr.varS with
     | false=>rfl
     | true=>
      have h0:Tr.dS t.op=0:=by rw[nb_of hv];rfl
      rw[h0]at hk
      omega
    have hby:=Tr.freeTL_bytes t.op t.name t.arg 0 t.kids hfe.2.2.2.2.2.2
    have e:Tr.dM t=Tr.sortS (Tr.eM t.op t.name t.arg 0 t.kids):=by
     cases t with
     | mk o p q n a ks=>simp only[Nd.op]at hvar;simp only[Tr.dM,Nd.op,Nd.name,Nd.arg,Nd.kids,hvar,cond_false]
    rw[e,Tr.sortS_mem hby]
    exact hin
noncomputable abbrev eC:Env:=bH (bH (bH (bH (bH (bH (bH (bH (bH env 127 (primGrow 9 1 16)) 18 Tr.pHasS) 25 Tr.pHasS) 19 Tr.pIsT) 14 Tr.pIsR) 21 Tr.pTFree) 15 Tr.pRFree) 7 Tr.pSize) 11 (primBool true)
theorem eC_ok:dW Tryz.prog eC:=bD (bD (bD (bD (bD (bD (bD (bD (bD env_ok pGrow_ok) Tr.p27_ok) Tr.p40_ok) Tr.p9_ok) Tr.p8_ok) Tr.p15_ok) Tr.p16_ok) Tr.p7_ok) (primBool_ok env1_ok known0)
theorem FunsR.shape {h:H} {v:AV} {F:List AV} (c:FunsR h v F):v = .sl .full []∨∃ id n,v = .rs id n true:=by
 rcases c with ⟨e,_⟩|⟨id,e,_⟩
 ·exact .inl e
 ·exact .inr ⟨id,_,e⟩
theorem ofF_eq (t:Nd) (hf:fit t) (en:List Str):ofF (Tr.isR t) (Tr.dM t) t en=ofF (Tr.isR t) (Tr.freeRF t) t en:=by
 cases his:Tr.isR t with
 | false=>rfl
 | true=>rw[Tr.free_eq (is_size his).2 hf]
theorem ofF_small (b:Bool) (L:List Str) (t:Nd) (en:List Str) (hb:b=true→t.size≤2000∧arOk t=true):(ofF b L t en).2.1.length≤1000000∧(∀ c∈(ofF b L t en).2.1,c.length≤1000000)∧(ofF b L t en).2.2.1.length≤1000000:=by
 unfold ofF
 cases h1:(!b||(ltI 4 ↑en.length||dT L en))with
 | true=>simp
 | false=>
  cases h2:(ltI 200 ↑(cZ (gen t.dep) t en [] 0).2.length||longL (cZ (gen t.dep) t en [] 0).2)with
  | true=>simp
  | false=>
   simp only[cond_false]
   simp only[Bool.or_eq_false_iff,Bool.not_eq_false']at h1 h2
   obtain⟨hs,ha⟩:=hb h1.1
   have hlen:=cW t.dep t en [] 1 0 ha
   refine⟨?_,fun c hc => ?_,?_⟩
   ·have:=h2.1
    rw[dI]at this
    simp at this
    omega
   ·have:=List.any_eq_false.1 h2.2 c hc
    rw[Bool.not_eq_true,dI]at this
    simp at this
    omega
   ·have:=hlen.1
    simp only[cZ,Nat.zero_add,List.length_nil]at this ⊢
    omega
theorem vd_all (t:Nd) (hf:fit t) (en:List Str) (his:Tr.isR t=true) (hst:dT (Tr.freeRF t) en=false):Vd t.dep t en:=by
 obtain⟨hs,he⟩:=is_size his
 refine vd_of t.dep t en he hf fun x hx => ?_
 rw[Tr.free_eq he hf]at hx
 have:=List.any_eq_false.1 hst x hx
 simpa using this
end Go.Proofs.YtogjplcnmibnlaaGreatDoor.Env
