/- Lookups in the tables of the program, as equations: written by a program. -/
import Derived.Test.YtogjplcnmibnlaaGreatDoorCA
set_option autoImplicit false
set_option maxRecDepth 100000
set_option maxHeartbeats 8000000
set_option linter.unusedSimpArgs false
set_option linter.unusedVariables false
namespace Go.Proofs.YtogjplcnmibnlaaGreatDoor.Env
open Go.Ev
theorem TYQ:(env.ty 156=some r1∧env.ty 169=some r28∧env.ty 179=some r1∧env.ty 197=some r35∧env.plan 12 9=some [qO 0,qO 1,qO 2,qO 3,qO 4,qO 5,qO 6,qO 7,qO 8,qI 9 [4,8],qO 10,qO 11]∧env.plan 28 16=some [qO 0,qO 1,qO 2,qO 3,qO 4,qO 5,qI 6 [1,2],qO 7,qI 8 [],qI 9 []]∧env.plan 28 24=some [qO 0,qO 1,qO 2,qO 3,qO 4,qO 8,qI 5 [1],qO 6,qI 7 [],qI 9 []]∧env.plan 28 30=some [qO 0,qO 1,qO 2,qO 3,qO 4,qI 5 [1],qO 6,qI 7 [],qI 8 []]∧env.plan 29 3=some [qO 0,qO 1,qO 2,qO 3,qO 4,qO 5,qO 6,qO 7,qO 8,qO 9,qI 10 []]∧env.plan 50 10=some [qO 0,qO 1,qO 2,qO 3,qO 4,qO 5,qO 9,qI 6 [2],qO 7,qI 8 [],qI 10 []]∧env.plan 54 12=some [qO 0,qO 1,qO 2,qO 3,qO 4,qO 5,qO 9,qI 6 [1,2],qO 7,qI 8 [],qI 10 []]∧env.plan 55 4=some [qO 0,qO 1,qO 2,qO 3,qI 4 [1],qO 5,qI 6 [],qI 7 []]) ∧
(env.plan 90 5=some [qO 0,qO 1,qO 2,qO 3,qO 4,qO 5,qO 6,qO 7,qO 8,qO 9,qO 10,qO 11,qO 12,qO 13,qO 14,qO 15,qO 16,qO 17,qO 18,qO 19,qO 20,qO 21]∧env.plan 92 4=some [qO 0,qO 1,qO 2,qO 3,qI 4 [1],qO 5,qI 6 [],qI 7 []]∧env.plan 92 6=some [qO 0,qO 1,qO 2,qO 3,qI 4 [1],qO 5,qI 6 [],qI 7 []]∧env.plan 119 4=some [qO 0,qO 1,qO 2,qO 3,qI 4 [1],qO 5,qI 6 [],qI 7 []]∧env.plan 129 5=some [qO 0,qO 1,qO 2,qO 3,qI 4 [1],qO 5,qI 6 [],qI 7 []]∧env.plan 129 7=some [qO 0,qO 1,qO 2,qO 3,qI 4 [1],qO 5,qI 6 [],qI 7 []]∧env.plan 129 9=some [qO 0,qO 1,qO 2,qO 3,qI 4 [1],qO 5,qI 6 [],qI 7 []]∧env.plan 132 5=some [qO 0,qO 1,qO 2,qO 3,qI 4 [1],qO 5,qI 6 [],qI 7 []]∧env.plan 139 7=some [qO 0,qO 1,qO 2,qO 3,qO 4,qO 5,qO 6,qI 7 [3],qO 8,qI 9 [],qI 10 []]∧env.plan 139 10=some [qO 0,qO 1,qO 2,qO 3,qI 4 [1],qO 5,qI 6 [],qI 7 []]∧env.plan 139 14=some [qO 0,qO 1,qO 2,qO 3,qI 4 [1],qO 5,qI 6 [],qI 7 []]∧env.plan 146 17=some [qO 0,qO 1,qO 2,qO 3,qO 4,qI 5 [1],qO 6,qI 7 [],qI 8 []]) ∧
(env.plan 150 5=some [qO 0,qO 1,qO 2,qO 3,qO 4,qI 5 [1],qO 6,qI 7 [],qI 8 []]):=by
 repeat' apply And.intro
 all_goals first|kernel_rfl|(intros;rfl)
theorem MTQ:MT.mt 22=false∧MT.mt 25=false∧MT.mt 27=true∧MT.mt 45=false∧MT.mt 54=true∧MT.mt 63=false∧MT.mt 74=false∧MT.mt 75=true∧MT.mt 103=true:=⟨rfl,rfl,rfl,rfl,rfl,rfl,rfl,rfl,rfl⟩
end Go.Proofs.YtogjplcnmibnlaaGreatDoor.Env
namespace Go.Proofs.YtogjplcnmibnlaaGreatDoor.Pa
open Go.Ev Go.Ev.Nd Go.Proofs.YtogjplcnmibnlaaGreatDoor.Env
structure Tk where
 k:Int
 s:List Nat
 n:Int
 a:Int
def Tk.av (t:Tk):AV := .agg [.int .i64 t.k,.str t.s,.int .i64 t.n,.int .i64 t.a]
def In64 (n:Int):Prop := -9223372036854775808≤n∧n≤9223372036854775807
def Tk.ok (t:Tk):Prop:=okS t.s∧In64 t.n∧In64 t.a
structure WfL (L:List Tk):Prop where
 len:L.length≤1000000
 last:∀ t,L[L.length-1]?=some t→t.k=5
 ok:∀ t∈L,t.ok
structure Ps where
 i:Nat
 e:Int
 a:Int
def mu (L:List Tk) (σ:Ps):Nat:=bif aE σ.e 0 then L.length - σ.i else 0
def nowF (L:List Tk) (σ:Ps):Tk:=bif aE σ.e 0 then L.getD σ.i ⟨5,[],0,0⟩else⟨5,[],0,σ.a⟩
structure St (h:H) (p:Nat) (o:Go.Ev.Own) (L:List Tk) (σ:Ps):Prop where
 g:h.t.get p=some (.cells [.sl o (L.map Tk.av),.int .i64 ↑σ.i,.int .i64 σ.e,.int .i64 σ.a])
 lt:p<h.nx
 i:σ.i<L.length
 a:In64 σ.a
structure Fr (p:Nat) (h h':H):Prop where
 nx:h.nx≤h'.nx
 keep:∀ j,j<h.nx→j≠p→h'.t.get j=h.t.get j
structure Gr (h h':H):Prop where
 nx:h.nx≤h'.nx
 keep:∀ j,j<h.nx→h'.t.get j=h.t.get j
theorem Fr.refl (p:Nat) (h:H):Fr p h h:=⟨Nat.le_refl _,fun _ _ _=>rfl⟩
theorem Fr.trans {p:Nat} {a b c:H} (x:Fr p a b) (y:Fr p b c):Fr p a c:=⟨Nat.le_trans x.nx y.nx,fun j h1 h2=>(y.keep j (Nat.lt_of_lt_of_le h1 x.nx) h2).trans (x.keep j h1 h2)⟩
theorem Gr.trans {a b c:H} (x:Gr a b) (y:Gr b c):Gr a c:=⟨Nat.le_trans x.nx y.nx,fun j h1=>(y.keep j (Nat.lt_of_lt_of_le h1 x.nx)).trans (x.keep j h1)⟩
theorem Gr.fr {a b:H} (x:Gr a b) (p:Nat):Fr p a b:=⟨x.nx,fun j h _=>x.keep j h⟩
theorem St.gr {h h':H} {p:Nat} {o:Go.Ev.Own} {L:List Tk} {σ:Ps} (S:St h p o L σ) (x:Gr h h'):St h' p o L σ:=⟨(x.keep p S.lt).trans S.g,Nat.lt_of_lt_of_le S.lt x.nx,S.i,S.a⟩
theorem Fr.gr {p:Nat} {a b c:H} (x:Fr p a b) (y:Gr b c):Fr p a c:=x.trans (y.fr p)
theorem cC (h:H) (x:Go.Ev.Obj):Gr h ⟨h.t.set h.nx x,h.nx+1⟩:=⟨Nat.le_succ _,fun j hj=>T.aD _ _ (by omega)⟩
theorem bR (h:H) (x y:Go.Ev.Obj):Gr h ⟨(h.t.set h.nx x).set h.nx y,h.nx+1⟩:=⟨Nat.le_succ _,fun j hj=>(T.aD _ _ (by omega)).trans (T.aD _ _ (by omega))⟩
structure Lc (h:H) (k:Nat) (c:List AV):Prop where
 g:h.t.get k=some (.cells c)
 lt:k<h.nx
theorem Lc.fr {p:Nat} {h h':H} {k:Nat} {c:List AV} (l:Lc h k c) (x:Fr p h h') (hk:k≠p):Lc h' k c:=⟨(x.keep k l.lt hk).trans l.g,Nat.lt_of_lt_of_le l.lt x.nx⟩
theorem Lc.gr {h h':H} {k:Nat} {c:List AV} (l:Lc h k c) (x:Gr h h'):Lc h' k c:=⟨(x.keep k l.lt).trans l.g,Nat.lt_of_lt_of_le l.lt x.nx⟩
theorem gD (h:H) (c:List AV):Lc ⟨h.t.set h.nx (.cells c),h.nx+1⟩ h.nx c:=⟨T.bO _ _ _,Nat.lt_succ_self _⟩
theorem eH (h:H) (x:Go.Ev.Obj) (c:List AV):Lc ⟨(h.t.set h.nx x).set h.nx (.cells c),h.nx+1⟩ h.nx c:=⟨T.bO _ _ _,Nat.lt_succ_self _⟩
structure POk (E:Go.Ev.Env):Prop where
 ty:E.ty=env.ty
 pl:E.plan=env.plan
 fn:E.fns=env.fns
 no:∀ k∈[28,29,30,48,49,50,51,52,53,54,55,91,92,119,129,132,139,146,147,150],E.prim k=none
section
variable {E:Go.Ev.Env} {h:H} {p:Nat} {o:Go.Ev.Own} {L:List Tk} {σ:Ps}
theorem getD_at (S:St h p o L σ):L[σ.i]?=some (L.getD σ.i ⟨5,[],0,0⟩):=by
 rw[List.getD_eq_getElem?_getD,List.getElem?_eq_getElem S.i];rfl
theorem now_ok (wf:WfL L) (S:St h p o L σ):(nowF L σ).ok:=by
 unfold nowF
 cases aE σ.e 0 with
 | true=>exact wf.ok _ (List.mem_of_getElem? (getD_at S))
 | false=>exact⟨⟨by simp,by simp⟩,⟨by simp,by simp⟩,S.a⟩
theorem now_ne (wf:WfL L) (S:St h p o L σ) (hk:(nowF L σ).k≠5):aE σ.e 0=true∧σ.i+1<L.length:=by
 unfold nowF at hk
 cases he:aE σ.e 0 with
 | false=>rw[he]at hk;exact absurd rfl hk
 | true=>
  rw[he]at hk
  refine⟨rfl,?_⟩
  have h1:=getD_at S
  have h2:=S.i
  rcases Nat.lt_or_ge (σ.i+1) L.length with h3|h3
  ·exact h3
  ·have:σ.i=L.length-1:=by omega
   rw[this]at h1 hk
   exact absurd (wf.last _ h1) hk
theorem mu_next (wf:WfL L) (S:St h p o L σ) (hk:(nowF L σ).k≠5):mu L ⟨σ.i+1,σ.e,σ.a⟩<mu L σ∧σ.i+1<L.length∧wr .i64 (↑σ.i+1)=↑(σ.i+1):=by
 obtain⟨h1,h2⟩:=now_ne wf S hk
 refine⟨?_,h2,?_⟩
 ·simp only[mu,h1,cond_true];omega
 ·have:=wf.len
  rw[cH (by omega)];simp
theorem body29:Tryz.f29.body=some (aC Tryz.f29 []):=rfl
theorem now_run (e:POk E) (S:St h p o L σ):∃ h',evL E 29 [.ptr (some (p,0))] h=some ((nowF L σ).av,h')∧Gr h h':=by
 have hty:=e.ty
 have hpl:=e.pl
 have hg:=S.g
 have h1:=getD_at S
 have hne:p≠h.nx:=by have:=S.lt;omega
 rw[bE E (e.no 29 (by simp)) (by rw[e.fn];kernel_rfl) body29 _ _ rfl]
 simp only[aC,sub,Tryz.f29]
 unfold nowF
 generalize L.getD σ.i ⟨5,[],0,0⟩=t at *
 cases he:aE σ.e 0 with
 | true=>
  simp[EVT,aT,bC,aX,bA,bT,aL,aN,aQ,bX,bF,aV,AV.cells,aG,aZ,val,aH,bN,bP,aU,bI,recheck,H.new,H.put,cT,aY,bB,AV.one,setArgs,bQ,bS,bJ,aR,aP,bK,TYC,TYQ,hty,hpl,hg,he,hne,h1,Tk.av]
  exact bR _ _ _
 | false=>
  simp[EVT,aT,bC,aX,bA,bT,aL,aN,aQ,bX,bF,aV,AV.cells,aG,aZ,val,aH,bN,bP,aU,H.new,H.put,cT,aY,bB,AV.one,setArgs,bQ,bS,bJ,aR,aP,bK,TYC,TYQ,hty,hg,he,hne,Tk.av]
  exact bR _ _ _
end
end Go.Proofs.YtogjplcnmibnlaaGreatDoor.Pa
namespace Go.Proofs.YtogjplcnmibnlaaGreatDoor.Pa
open Go.Ev Go.Ev.Nd Go.Proofs.YtogjplcnmibnlaaGreatDoor.Env
attribute [local simp] bC aX bA bT aL aN aQ bX bF bW dE cD aV AV.cells aG aZ val aH bN bP cP bG eI aU aO aM bY bI recheck H.new H.put cT aY bB AV.one setArgs bQ bS bJ aR aP bK
section
variable {E:Go.Ev.Env} {h:H} {p:Nat} {o:Go.Ev.Own} {L:List Tk} {σ:Ps}
def isF (L:List Tk) (σ:Ps) (w:List Nat):Bool:=aE (nowF L σ).k 4&&aB (nowF L σ).s w
theorem body91:Tryz.f91.body=some (aC Tryz.f91 []):=rfl
theorem is_run (e:POk E) (S:St h p o L σ) (w:List Nat):∃ h',evL E 91 [.ptr (some (p,0)),.str w] h=some (.bool (isF L σ w),h')∧Gr h h':=by
 have hty:=e.ty
 have hpl:=e.pl
 obtain⟨h1,k1,g1⟩:=now_run e S
 obtain⟨h2,k2,g2⟩:=now_run e (S.gr g1)
 rw[bE E (e.no 91 (by simp)) (by rw[e.fn];kernel_rfl) body91 _ _ rfl]
 simp only[aC,sub,Tryz.f91]
 unfold isF
 generalize nowF L σ=t at *
 cases hk:aE t.k 4 with
 | true=>simp[EVT,aT,TYC,TYQ,hty,Tk.av]at k1 k2 ⊢;simp[EVT,hk,k1,k2];exact g1.trans g2
 | false=>simp[EVT,aT,TYC,TYQ,hty,Tk.av]at k1 k2 ⊢;simp[EVT,hk,k1];exact g1
theorem body49:Tryz.f49.body=some (aC Tryz.f49 []):=rfl
theorem eV (e:POk E) (wf:WfL L) (S:St h p o L σ) (w:List Nat):∃ h' b σ',evL E 49 [.ptr (some (p,0)),.str w] h=some (.bool b,h')∧St h' p o L σ'∧Fr p h h'∧(b=true→mu L σ'<mu L σ)∧(b=false→mu L σ'=mu L σ):=by
 have hty:=e.ty
 have hpl:=e.pl
 obtain⟨h1,k1,g1⟩:=is_run e S w
 have S1:=S.gr g1
 have hg:=S1.g
 rw[bE E (e.no 49 (by simp)) (by rw[e.fn];kernel_rfl) body49 _ _ rfl]
 simp only[aC,sub,Tryz.f49]
 cases hb:isF L σ w with
 | false=>
  rw[hb]at k1
  refine⟨h1,false,σ,?_,S1,g1.fr p,(fun h=>by cases h),fun _=>rfl⟩
  simp[EVT,aT,k1]
 | true=>
  rw[hb]at k1
  obtain⟨m1,m2,m3⟩:=mu_next wf S (by
   unfold isF at hb
   simp only[Bool.and_eq_true]at hb
   have:=hb.1
   rw[bU]at this
   have:(nowF L σ).k=4:=by simpa using this
   omega)
  refine⟨⟨h1.t.set p (.cells [.sl o (L.map Tk.av),.int .i64 ↑(σ.i+1),.int .i64 σ.e,.int .i64 σ.a]),h1.nx⟩,true,⟨σ.i+1,σ.e,σ.a⟩,?_,⟨T.bO _ _ _,S1.lt,m2,S.a⟩,?_,fun _=>m1,(fun h=>by cases h)⟩
  ·simp[EVT,aT,TYC,TYQ,hty,k1,hg,m3]
  ·exact(g1.fr p).trans ⟨Nat.le_refl _,fun j _ hj=>T.aD _ _ hj⟩
theorem body30:Tryz.f30.body=some (aC Tryz.f30 []):=rfl
theorem fail_run (e:POk E) (wf:WfL L) (S:St h p o L σ) (c:Int) (hc:aE c 0=false):∃ h' σ',evL E 30 [.ptr (some (p,0)),.int .i64 c] h=some (.tup [],h')∧St h' p o L σ'∧Fr p h h'∧mu L σ'=0:=by
 have hty:=e.ty
 have hpl:=e.pl
 obtain⟨h1,k1,g1⟩:=now_run e S
 have S1:=S.gr g1
 have hg0:=S.g
 have hg:=S1.g
 have hok:=now_ok wf S
 rw[bE E (e.no 30 (by simp)) (by rw[e.fn];kernel_rfl) body30 _ _ rfl]
 simp only[aC,sub,Tryz.f30]
 cases he:aE σ.e 0 with
 | false=>
  refine⟨h,σ,?_,S,Fr.refl p h,by simp[mu,he]⟩
  simp[EVT,aT,TYC,TYQ,hty,hg0,he]
 | true=>
  generalize nowF L σ=t at *
  refine⟨⟨(h1.t.set p (.cells [.sl o (L.map Tk.av),.int .i64 ↑σ.i,.int .i64 c,.int .i64 σ.a])).set p (.cells [.sl o (L.map Tk.av),.int .i64 ↑σ.i,.int .i64 c,.int .i64 t.a]),h1.nx⟩,⟨σ.i,c,t.a⟩,?_,⟨T.bO _ _ _,S1.lt,S.i,hok.2.2⟩,?_,by simp[mu,hc]⟩
  ·simp[Tk.av]at k1
   simp[EVT,aT,TYC,TYQ,hty,hg0,he,k1,hg]
  ·exact(g1.fr p).trans ⟨Nat.le_refl _,fun j _ hj=>(T.aD _ _ hj).trans (T.aD _ _ hj)⟩
theorem body52:Tryz.f52.body=some (aC Tryz.f52 []):=rfl
theorem fH (e:POk E) (wf:WfL L) (S:St h p o L σ) (w:List Nat):∃ h' σ',evL E 52 [.ptr (some (p,0)),.str w] h=some (.tup [],h')∧St h' p o L σ'∧Fr p h h'∧mu L σ'≤mu L σ:=by
 have hty:=e.ty
 have hpl:=e.pl
 obtain⟨h1,b,σ1,k1,S1,f1,m1,m2⟩:=eV e wf S w
 rw[bE E (e.no 52 (by simp)) (by rw[e.fn];kernel_rfl) body52 _ _ rfl]
 simp only[aC,sub,Tryz.f52]
 cases b with
 | true=>
  refine⟨h1,σ1,?_,S1,f1,Nat.le_of_lt (m1 rfl)⟩
  simp[EVT,aT,k1]
 | false=>
  obtain⟨h2,σ2,k2,S2,f2,m3⟩:=fail_run e wf S1 2 rfl
  refine⟨h2,σ2,?_,S2,f1.trans f2,by omega⟩
  simp[EVT,aT,k1,k2]
theorem body51:Tryz.f51.body=some (aC Tryz.f51 []):=rfl
theorem name_run (e:POk E) (wf:WfL L) (S:St h p o L σ):∃ h' s σ',evL E 51 [.ptr (some (p,0))] h=some (.str s,h')∧okS s∧St h' p o L σ'∧Fr p h h'∧mu L σ'≤mu L σ:=by
 have hty:=e.ty
 have hpl:=e.pl
 obtain⟨h1,k1,g1⟩:=now_run e S
 have hok:=now_ok wf S
 have hmu:=mu_next wf S
 obtain⟨g,hgd⟩:∃ g:H,g=⟨(h1.t.set h1.nx (.cells [.int .i64 0,.str [],.int .i64 0,.int .i64 0])).set h1.nx (.cells [.int .i64 (nowF L σ).k,.str (nowF L σ).s,.int .i64 (nowF L σ).n,.int .i64 (nowF L σ).a]),h1.nx+1⟩:=⟨_,rfl⟩
 have gg:Gr h1 g:=hgd▸bR _ _ _
 have S2:=(S.gr g1).gr gg
 have l2:Lc g h1.nx [.int .i64 (nowF L σ).k,.str (nowF L σ).s,.int .i64 (nowF L σ).n,.int .i64 (nowF L σ).a]:=hgd▸eH _ _ _
 have hne:p≠h1.nx:=by have:=(S.gr g1).lt;omega
 rw[bE E (e.no 51 (by simp)) (by rw[e.fn];kernel_rfl) body51 _ _ rfl]
 simp only[aC,sub,Tryz.f51]
 cases hb:aE (nowF L σ).k 1 with
 | false=>
  obtain⟨h2,σ2,k2,S3,f2,m3⟩:=fail_run e wf S2 2 rfl
  refine⟨h2,[],σ2,?_,⟨by simp,by simp⟩,S3,((g1.trans gg).fr p).trans f2,by omega⟩
  generalize nowF L σ=t at *
  subst hgd
  simp[EVT,aT,TYC,TYQ,hty,Tk.av]at k1 k2 ⊢
  simp[EVT,hb,k1,k2,bytesOf]
 | true=>
  obtain⟨m1,m2,m3⟩:=hmu (by
   rw[bU]at hb
   have:(nowF L σ).k=1:=by simpa using hb
   omega)
  refine⟨⟨g.t.set p (.cells [.sl o (L.map Tk.av),.int .i64 ↑(σ.i+1),.int .i64 σ.e,.int .i64 σ.a]),g.nx⟩,(nowF L σ).s,⟨σ.i+1,σ.e,σ.a⟩,?_,hok.1,⟨T.bO _ _ _,S2.lt,m2,S.a⟩,((g1.trans gg).fr p).trans ⟨Nat.le_refl _,fun j _ hj=>T.aD _ _ hj⟩,Nat.le_of_lt m1⟩
  have hg:=(S.gr g1).g
  generalize nowF L σ=t at *
  subst hgd
  simp[EVT,aT,TYC,TYQ,hty,Tk.av]at k1 ⊢
  simp[EVT,hb,k1,hg,hne,Ne.symm hne,m3]
theorem body48:Tryz.f48.body=some (aC Tryz.f48 []):=rfl
theorem deep_run (e:POk E) (wf:WfL L) (S:St h p o L σ) (d:Nat):∃ h' σ',evL E 48 [.ptr (some (p,0)),.int .i64 ↑d] h=some (.tup [],h')∧St h' p o L σ'∧Fr p h h'∧mu L σ'≤mu L σ∧(40≤d→mu L σ'=0):=by
 have hty:=e.ty
 have hpl:=e.pl
 rw[bE E (e.no 48 (by simp)) (by rw[e.fn];kernel_rfl) body48 _ _ rfl]
 simp only[aC,sub,Tryz.f48]
 cases hb:ltI ↑d 40 with
 | true=>
  refine⟨h,σ,?_,S,Fr.refl p h,Nat.le_refl _,fun hd => ?_⟩
  ·simp[EVT,aT,hty,hb]
  ·rw[dI]at hb;simp at hb;omega
 | false=>
  obtain⟨h2,σ2,k2,S3,f2,m3⟩:=fail_run e wf S 3 rfl
  refine⟨h2,σ2,?_,S3,f2,by omega,fun _=>m3⟩
  simp[EVT,aT,hty,hb,k2]
theorem body53:Tryz.f53.body=some (aC Tryz.f53 []):=rfl
theorem eZ (e:POk E) (s:List Nat) (a:Int) (w:Go.Ev.Own) (ks:List AV) (h:H):∃ h',evL E 53 [.str s,.int .i64 a,.sl w ks] h=some (.agg [.str s,.str [],.str [],.int .i64 0,.int .i64 a,.sl w ks],h')∧Gr h h':=by
 have hty:=e.ty
 have hpl:=e.pl
 rw[bE E (e.no 53 (by simp)) (by rw[e.fn];kernel_rfl) body53 _ _ rfl]
 simp only[aC,sub,Tryz.f53]
 simp[EVT,aT,TYC,TYQ,hty]
 exact bR _ _ _
theorem body147:Tryz.f147.body=some (aC Tryz.f147 []):=rfl
theorem begins_run (e:POk E) (wf:WfL L) (S:St h p o L σ):∃ h' b,evL E 147 [.ptr (some (p,0))] h=some (.bool b,h')∧Gr h h'∧(b=true→0<mu L σ):=by
 have hty:=e.ty
 have hpl:=e.pl
 obtain⟨h1,k1,g1⟩:=now_run e S
 have hmu:=mu_next wf S
 have hm:(nowF L σ).k≠5→0<mu L σ:=fun h=>by have:=(hmu h).1;omega
 clear hmu
 generalize hy:evL E 147 _ _=y
 rw[bE E (e.no 147 (by simp)) (by rw[e.fn];kernel_rfl) body147 _ _ rfl]at hy
 simp only[aC,sub,Tryz.f147]at hy
 generalize nowF L σ=t at *
 have hm4:aE t.k 4=true→0<mu L σ:=fun h=>hm (by
  rw[bU]at h
  have:t.k=4:=by simpa using h
  omega)
 have hm5:aE t.k 5=false→0<mu L σ:=fun h=>hm (by rw[bU]at h;simpa using h)
 simp[Tk.av]at k1
 cases c4:aE t.k 4 with
 | false=>
  cases c5:aE t.k 5<;>simp[EVT,aT,TYC,TYQ,hty,c4,c5,k1]at hy
  ·exact⟨_,_,hy.symm,g1.trans (bR _ _ _),fun _=>hm5 c5⟩
  ·exact⟨_,_,hy.symm,g1.trans (bR _ _ _),fun h=>by cases h⟩
 | true=>
  have:=hm4 c4
  cases d1:aB t.s [116,114,117,101]<;>cases d2:aB t.s [102,97,108,115,101]<;>cases d3:aB t.s [33]<;>cases d4:aB t.s [40]<;>cases d5:aB t.s [91] <;>
   simp[EVT,aT,TYC,TYQ,hty,c4,k1,d1,d2,d3,d4,d5,bytesOf]at hy<;>exact⟨_,_,hy.symm,g1.trans (bR _ _ _),fun _=>this⟩
end
end Go.Proofs.YtogjplcnmibnlaaGreatDoor.Pa
namespace Go.Proofs.YtogjplcnmibnlaaGreatDoor.Pa
open Go.Ev Go.Ev.Nd Go.Proofs.YtogjplcnmibnlaaGreatDoor.Env
def Nv (v:AV) (t:Nd):Prop:=∃ w ks,v = .agg [.str t.op,.str t.name,.str t.arg,.int .i64 t.n,.int .i64 t.at_,.sl w ks]∧AV.wks 0 ks (avs t.kids)∧fit t
def Rn (p:Nat) (o:Go.Ev.Own) (L:List Tk) (h:H) (σ:Ps) (y:Option (AV × H)):Prop:=
 ∃ h' v t σ',y=some (v,h')∧Nv v t∧St h' p o L σ'∧Fr p h h'∧(mu L σ'<mu L σ∨mu L σ'=0)
def P2 (E:Go.Ev.Env) (p:Nat) (o:Go.Ev.Own) (L:List Tk) (f m:Nat):Prop:=
 ∀ h σ (d:Nat),St h p o L σ→mu L σ<m→d≤40→Rn p o L h σ (evL E f [.ptr (some (p,0)),.int .i64 ↑d] h)
def P3 (E:Go.Ev.Env) (p:Nat) (o:Go.Ev.Own) (L:List Tk) (f m:Nat):Prop:=
 ∀ h σ (d:Nat) (a:Int),St h p o L σ→mu L σ<m→d<40→In64 a→Rn p o L h σ (evL E f [.ptr (some (p,0)),.int .i64 ↑d,.int .i64 a] h)
section
variable {h h':H} {p r:Nat} {o:Go.Ev.Own} {L:List Tk} {σ:Ps} {X:Go.Ev.Obj}
theorem dB (S:St h p o L σ) (hr:r≠p):St ⟨h.t.set r X,h.nx⟩ p o L σ:=⟨(T.aD _ _ (Ne.symm hr)).trans S.g,S.lt,S.i,S.a⟩
theorem dC (F:Fr p h h') (hr:h.nx≤r):Fr p h ⟨h'.t.set r X,h'.nx⟩:=⟨F.nx,fun j h1 h2=>(T.aD _ _ (by omega)).trans (F.keep j h1 h2)⟩
theorem fr_put (F:Fr p h h'):Fr p h ⟨h'.t.set p X,h'.nx⟩:=⟨F.nx,fun j h1 h2=>(T.aD _ _ h2).trans (F.keep j h1 h2)⟩
theorem st_put {i:Nat} (S:St h p o L σ) (hi:i<L.length):St ⟨h.t.set p (.cells [.sl o (L.map Tk.av),.int .i64 ↑i,.int .i64 σ.e,.int .i64 σ.a]),h.nx⟩ p o L ⟨i,σ.e,σ.a⟩:=⟨T.bO _ _ _,S.lt,hi,S.a⟩
end
theorem lc_same {h:H} {r:Nat} {c c':List AV} (l:Lc h r c):Lc ⟨h.t.set r (.cells c'),h.nx⟩ r c':=⟨T.bO _ _ _,l.lt⟩
theorem lc_other {h:H} {r k:Nat} {c:List AV} {X:Go.Ev.Obj} (l:Lc h k c) (hk:k≠r):Lc ⟨h.t.set r X,h.nx⟩ k c:=⟨(T.aD _ _ hk).trans l.g,l.lt⟩
theorem ok0:okS []:=⟨by simp,by simp⟩
theorem in0:In64 0:=⟨by decide,by decide⟩
theorem in1:In64 1:=⟨by decide,by decide⟩
theorem fit_mk {op nm ar:List Nat} {n a:Int} {ks:List Nd} (h1:okS op) (h2:okS nm) (h3:okS ar) (h4:In64 n) (h5:In64 a) (hl:ks.length≤3) (h6:fits ks):fit (.mk op nm ar n a ks):=by
 rw[fit_iff]
 exact⟨h1,h2,h3,h4,h5,by simp only[kids];omega,h6⟩
theorem dF {t:Nd} {w:Go.Ev.Own} {ks:List AV} (h:AV.wks 0 ks (avs t.kids)):(AV.agg [.str t.op,.str t.name,.str t.arg,.int .i64 t.n,.int .i64 t.at_,.sl w ks]).wk 0 t.av:=by
 rw[bZ]
 simp[wk_agg,wk_sl,cK,wks_nil,wk_int,wk_str,own_no,h]
theorem wk_0:AV.wks 0 [] (avs []):=wks_nil
theorem wk_1 {a:AV} {t:Nd} (h:a.wk 0 t.av):AV.wks 0 [a] (avs [t]):=cK.2 ⟨h,wks_nil⟩
theorem wk_2 {a b:AV} {t u:Nd} (h:a.wk 0 t.av) (k:b.wk 0 u.av):AV.wks 0 [a,b] (avs [t,u]):=cK.2 ⟨h,wk_1 k⟩
theorem wk_3 {a b c:AV} {t u v:Nd} (h:a.wk 0 t.av) (k:b.wk 0 u.av) (l:c.wk 0 v.av):AV.wks 0 [a,b,c] (avs [t,u,v]):=cK.2 ⟨h,wk_2 k l⟩
theorem fit_0:fits []:=trivial
theorem fit_1 {t:Nd} (h:fit t):fits [t]:=⟨h,trivial⟩
theorem fit_2 {t u:Nd} (h:fit t) (k:fit u):fits [t,u]:=⟨h,k,trivial⟩
theorem fit_3 {t u v:Nd} (h:fit t) (k:fit u) (l:fit v):fits [t,u,v]:=⟨h,k,l,trivial⟩
theorem okl {s:List Nat} (h:(Nat.ble s.length 100&&s.all fun x=>Nat.blt x 256)=true):okS s:=by
 simp only[Bool.and_eq_true,List.all_eq_true]at h
 exact⟨Nat.le_trans (Nat.le_of_ble_eq_true h.1) (by decide),fun x hx=>cR.1 (h.2 x hx)⟩
theorem nv_mk {op nm ar:List Nat} {n a:Int} {w:Go.Ev.Own} {els:List AV} {ks:List Nd} (h:AV.wks 0 els (avs ks)) (h1:okS op) (h2:okS nm) (h3:okS ar) (h4:In64 n) (h5:In64 a) (hl:ks.length≤3) (h6:fits ks) :
  Nv (.agg [.str op,.str nm,.str ar,.int .i64 n,.int .i64 a,.sl w els]) (.mk op nm ar n a ks):=⟨_,_,rfl,h,fit_mk h1 h2 h3 h4 h5 hl h6⟩
theorem succ_int (d:Nat):((d+1:Nat):Int)=↑d+1:=by simp
section
variable {E:Go.Ev.Env} {p:Nat} {o:Go.Ev.Own} {L:List Tk} {m:Nat}
theorem body119:Tryz.f119.body=some (aC Tryz.f119 []):=rfl
theorem cons_step (e:POk E) (wf:WfL L) (ps:P2 E p o L 129 (m+1)) (pc:P2 E p o L 119 m):P2 E p o L 119 (m+1):=by
 intro h σ d S0 m0 hd
 have hty:=e.ty
 have hpl:=e.pl
 have hd1:=succ_int d
 have hw:wr .i64 (↑d+1)=↑d+1:=cH (i:=d) (by omega)
 generalize hy:evL E 119 _ _=y
 rw[bE E (e.no 119 (by simp)) (by rw[e.fn];kernel_rfl) body119 _ _ rfl]at hy
 simp only[aC,sub,Tryz.f119]at hy
 obtain⟨h1,hh1⟩:∃ g:H,g=⟨h.t.set h.nx (.cells [.str [],.str [],.str [],.int .i64 0,.int .i64 0,.sl .full []]),h.nx+1⟩:=⟨_,rfl⟩
 have g1:Gr h h1:=hh1▸cC _ _
 have npr:h.nx≠p:=by have:=S0.lt;omega
 have lor:h.nx≤h.nx:=(Fr.refl p h).nx
 have F1:=(Fr.refl p h).gr g1
 have S1:=S0.gr g1
 have lr_1:Lc h1 h.nx [.str [],.str [],.str [],.int .i64 0,.int .i64 0,.sl .full []]:=hh1▸gD _ _
 obtain⟨h2,v2,t2,σ2,k2,⟨w2,q2,rfl,qq2,ft2⟩,S2,f2,m2⟩:=ps _ _ d S1 (by omega) (by omega)
 have lr_2:=lr_1.fr f2 npr
 have F2:=F1.trans f2
 obtain⟨h3,hh3⟩:∃ g:H,g=⟨(h2.t.set h2.nx (.cells [.str [],.str [],.str [],.int .i64 0,.int .i64 0,.sl .full []])).set h2.nx (.cells [.str t2.op,.str t2.name,.str t2.arg,.int .i64 t2.n,.int .i64 t2.at_,.sl w2 q2]),h2.nx+1⟩:=⟨_,rfl⟩
 have g3:Gr h2 h3:=hh3▸bR _ _ _
 have ner_3:h.nx≠h2.nx:=by have:=lr_2.lt;omega
 have nps:h2.nx≠p:=by have:=S2.lt;omega
 have los:h.nx≤h2.nx:=F2.nx
 have lr_3:=lr_2.gr g3
 have F3:=F2.gr g3
 have S3:=S2.gr g3
 have ls_3:Lc h3 h2.nx [.str t2.op,.str t2.name,.str t2.arg,.int .i64 t2.n,.int .i64 t2.at_,.sl w2 q2]:=hh3▸eH _ _ _
 obtain⟨h4,k4,g4⟩:=now_run e S3
 have ok4:=now_ok wf S3
 have mn4:=mu_next wf S3
 have S4:=S3.gr g4
 generalize nowF L _=t4 at k4 ok4 mn4
 simp only[Tk.av]at k4
 have lr_4:=lr_3.gr g4
 have ls_4:=ls_3.gr g4
 have F4:=F3.gr g4
 obtain⟨h5,b5,σ5,k5,S5,f5,mt5,mf5⟩:=eV e wf S4 [58,58]
 have lr_5:=lr_4.fr f5 npr
 have ls_5:=ls_4.fr f5 nps
 have F5:=F4.trans f5
 cases b5 with
 | true=>
  have m5:=mt5 rfl
  obtain⟨h6,v6,t6,σ6,k6,⟨w6,q6,rfl,qq6,ft6⟩,S6,f6,m6⟩:=pc _ _ d S5 (by omega) (by omega)
  have lr_6:=lr_5.fr f6 npr
  have ls_6:=ls_5.fr f6 nps
  have F6:=F5.trans f6
  obtain⟨h7,k7,g7⟩:=eZ e [99,111,110,115] t4.a .full [.agg [.str t2.op,.str t2.name,.str t2.arg,.int .i64 t2.n,.int .i64 t2.at_,.sl w2 q2],.agg [.str t6.op,.str t6.name,.str t6.arg,.int .i64 t6.n,.int .i64 t6.at_,.sl w6 q6]] h6
  have S7:=S6.gr g7
  have lr_7:=lr_6.gr g7
  have ls_7:=ls_6.gr g7
  have F7:=F6.gr g7
  subst hh1
  subst hh3
  simp[EVT,aT,bC,aX,bA,bT,aL,aN,aQ,bX,bF,aV,AV.cells,aG,aZ,val,aH,aO,aM,bI,recheck,H.new,H.put,aY,bB,AV.one,setArgs,bQ,bS,bJ,aR,TYC,TYQ,MTQ,hty,hpl,bytesOf,k2,k4,k5,k6,k7,ls_5.g,ls_6.g,lr_7.g]at hy
  exact⟨_,_,(.mk [99,111,110,115] [] [] (0) (t4.a) [t2,t6]),_,hy.symm,nv_mk (wk_2 (dF qq2) (dF qq6)) (okl rfl) ok0 ok0 in0 ok4.2.2 (by simp) (fit_2 ft2 ft6),(dB S7 npr),(dC F7 lor),by omega⟩
 | false=>
  have m5:=mf5 rfl
  subst hh1
  subst hh3
  simp[EVT,aT,bC,aX,bA,bT,aL,aN,aQ,bX,bF,aV,AV.cells,aG,aZ,val,aH,aO,bI,recheck,H.new,H.put,aY,bB,AV.one,setArgs,bQ,bS,bJ,aR,TYC,TYQ,MTQ,hty,hpl,bytesOf,k2,k4,k5,lr_5.g,ls_5.g]at hy
  exact⟨_,_,t2,_,hy.symm,⟨_,_,rfl,qq2,ft2⟩,(dB S5 npr),(dC F5 lor),by omega⟩
end
end Go.Proofs.YtogjplcnmibnlaaGreatDoor.Pa
namespace Go.Proofs.YtogjplcnmibnlaaGreatDoor.Pa
open Go.Ev Go.Ev.Nd Go.Proofs.YtogjplcnmibnlaaGreatDoor.Env
attribute [local simp] bC aX bA bT aL aN aQ bX bF bW dE cD aV AV.cells aG aZ val aH bN bP cP bG eI aU aO aM bY bI recheck H.new H.put cT aY bB AV.one setArgs bQ bS bJ aR aP bK
section
variable {E:Go.Ev.Env} {p:Nat} {o:Go.Ev.Own} {L:List Tk} {m:Nat}
theorem body92:Tryz.f92.body=some (aC Tryz.f92 []):=rfl
theorem cmp_step (e:POk E) (wf:WfL L) (pc:P2 E p o L 119 (m+1)):P2 E p o L 92 (m+1):=by
 intro h σ d S0 m0 hd
 have hty:=e.ty
 have hpl:=e.pl
 have hd1:=succ_int d
 have hw:wr .i64 (↑d+1)=↑d+1:=cH (i:=d) (by omega)
 generalize hy:evL E 92 _ _=y
 rw[bE E (e.no 92 (by simp)) (by rw[e.fn];kernel_rfl) body92 _ _ rfl]at hy
 simp only[aC,sub,Tryz.f92]at hy
 obtain⟨h1,hh1⟩:∃ g:H,g=⟨h.t.set h.nx (.cells [.str [],.str [],.str [],.int .i64 0,.int .i64 0,.sl .full []]),h.nx+1⟩:=⟨_,rfl⟩
 have g1:Gr h h1:=hh1▸cC _ _
 have npr:h.nx≠p:=by have:=S0.lt;omega
 have lor:h.nx≤h.nx:=(Fr.refl p h).nx
 have F1:=(Fr.refl p h).gr g1
 have S1:=S0.gr g1
 have lr_1:Lc h1 h.nx [.str [],.str [],.str [],.int .i64 0,.int .i64 0,.sl .full []]:=hh1▸gD _ _
 obtain⟨h2,v2,t2,σ2,k2,⟨w2,q2,rfl,qq2,ft2⟩,S2,f2,m2⟩:=pc _ _ d S1 (by omega) (by omega)
 have lr_2:=lr_1.fr f2 npr
 have F2:=F1.trans f2
 obtain⟨h3,hh3⟩:∃ g:H,g=⟨(h2.t.set h2.nx (.cells [.str [],.str [],.str [],.int .i64 0,.int .i64 0,.sl .full []])).set h2.nx (.cells [.str t2.op,.str t2.name,.str t2.arg,.int .i64 t2.n,.int .i64 t2.at_,.sl w2 q2]),h2.nx+1⟩:=⟨_,rfl⟩
 have g3:Gr h2 h3:=hh3▸bR _ _ _
 have ner_3:h.nx≠h2.nx:=by have:=lr_2.lt;omega
 have nps:h2.nx≠p:=by have:=S2.lt;omega
 have los:h.nx≤h2.nx:=F2.nx
 have lr_3:=lr_2.gr g3
 have F3:=F2.gr g3
 have S3:=S2.gr g3
 have ls_3:Lc h3 h2.nx [.str t2.op,.str t2.name,.str t2.arg,.int .i64 t2.n,.int .i64 t2.at_,.sl w2 q2]:=hh3▸eH _ _ _
 obtain⟨h4,k4,g4⟩:=now_run e S3
 have ok4:=now_ok wf S3
 have mn4:=mu_next wf S3
 have S4:=S3.gr g4
 generalize nowF L _=t4 at k4 ok4 mn4
 simp only[Tk.av]at k4
 have lr_4:=lr_3.gr g4
 have ls_4:=ls_3.gr g4
 have F4:=F3.gr g4
 obtain⟨h5,b5,σ5,k5,S5,f5,mt5,mf5⟩:=eV e wf S4 [61]
 have lr_5:=lr_4.fr f5 npr
 have ls_5:=ls_4.fr f5 nps
 have F5:=F4.trans f5
 cases b5 with
 | true=>
  have m5:=mt5 rfl
  obtain⟨h6,v6,t6,σ6,k6,⟨w6,q6,rfl,qq6,ft6⟩,S6,f6,m6⟩:=pc _ _ d S5 (by omega) (by omega)
  have lr_6:=lr_5.fr f6 npr
  have ls_6:=ls_5.fr f6 nps
  have F6:=F5.trans f6
  obtain⟨h7,k7,g7⟩:=eZ e [101,113] t4.a .full [.agg [.str t2.op,.str t2.name,.str t2.arg,.int .i64 t2.n,.int .i64 t2.at_,.sl w2 q2],.agg [.str t6.op,.str t6.name,.str t6.arg,.int .i64 t6.n,.int .i64 t6.at_,.sl w6 q6]] h6
  have S7:=S6.gr g7
  have lr_7:=lr_6.gr g7
  have ls_7:=ls_6.gr g7
  have F7:=F6.gr g7
  subst hh1
  subst hh3
  simp[EVT,aT,TYC,TYQ,MTQ,hty,hpl,bytesOf,k2,k4,k5,k6,k7,ls_5.g,ls_6.g,lr_7.g]at hy
  exact⟨_,_,(.mk [101,113] [] [] (0) (t4.a) [t2,t6]),_,hy.symm,nv_mk (wk_2 (dF qq2) (dF qq6)) (okl rfl) ok0 ok0 in0 ok4.2.2 (by simp) (fit_2 ft2 ft6),(dB S7 npr),(dC F7 lor),by omega⟩
 | false=>
  have m5:=mf5 rfl
  obtain⟨h8,b8,σ8,k8,S8,f8,mt8,mf8⟩:=eV e wf S5 [60]
  have lr_8:=lr_5.fr f8 npr
  have ls_8:=ls_5.fr f8 nps
  have F8:=F5.trans f8
  cases b8 with
  | true=>
   have m8:=mt8 rfl
   obtain⟨h9,v9,t9,σ9,k9,⟨w9,q9,rfl,qq9,ft9⟩,S9,f9,m9⟩:=pc _ _ d S8 (by omega) (by omega)
   have lr_9:=lr_8.fr f9 npr
   have ls_9:=ls_8.fr f9 nps
   have F9:=F8.trans f9
   obtain⟨h10,k10,g10⟩:=eZ e [108,101,115,115] t4.a .full [.agg [.str t2.op,.str t2.name,.str t2.arg,.int .i64 t2.n,.int .i64 t2.at_,.sl w2 q2],.agg [.str t9.op,.str t9.name,.str t9.arg,.int .i64 t9.n,.int .i64 t9.at_,.sl w9 q9]] h9
   have S10:=S9.gr g10
   have lr_10:=lr_9.gr g10
   have ls_10:=ls_9.gr g10
   have F10:=F9.gr g10
   subst hh1
   subst hh3
   simp[EVT,aT,TYC,TYQ,MTQ,hty,hpl,bytesOf,k2,k4,k5,k8,k9,k10,ls_5.g,ls_8.g,ls_9.g,lr_10.g]at hy
   exact⟨_,_,(.mk [108,101,115,115] [] [] (0) (t4.a) [t2,t9]),_,hy.symm,nv_mk (wk_2 (dF qq2) (dF qq9)) (okl rfl) ok0 ok0 in0 ok4.2.2 (by simp) (fit_2 ft2 ft9),(dB S10 npr),(dC F10 lor),by omega⟩
  | false=>
   have m8:=mf8 rfl
   subst hh1
   subst hh3
   simp[EVT,aT,TYC,TYQ,MTQ,hty,hpl,bytesOf,k2,k4,k5,k8,ls_5.g,lr_8.g,ls_8.g]at hy
   exact⟨_,_,t2,_,hy.symm,⟨_,_,rfl,qq2,ft2⟩,(dB S8 npr),(dC F8 lor),by omega⟩
theorem body55:Tryz.f55.body=some (aC Tryz.f55 []):=rfl
theorem set_step (e:POk E) (wf:WfL L) (pc:P2 E p o L 92 (m+1)):P2 E p o L 55 (m+1):=by
 intro h σ d S0 m0 hd
 have hty:=e.ty
 have hpl:=e.pl
 have hd1:=succ_int d
 have hw:wr .i64 (↑d+1)=↑d+1:=cH (i:=d) (by omega)
 generalize hy:evL E 55 _ _=y
 rw[bE E (e.no 55 (by simp)) (by rw[e.fn];kernel_rfl) body55 _ _ rfl]at hy
 simp only[aC,sub,Tryz.f55]at hy
 obtain⟨h1,hh1⟩:∃ g:H,g=⟨h.t.set h.nx (.cells [.str [],.str [],.str [],.int .i64 0,.int .i64 0,.sl .full []]),h.nx+1⟩:=⟨_,rfl⟩
 have g1:Gr h h1:=hh1▸cC _ _
 have npr:h.nx≠p:=by have:=S0.lt;omega
 have lor:h.nx≤h.nx:=(Fr.refl p h).nx
 have F1:=(Fr.refl p h).gr g1
 have S1:=S0.gr g1
 have lr_1:Lc h1 h.nx [.str [],.str [],.str [],.int .i64 0,.int .i64 0,.sl .full []]:=hh1▸gD _ _
 obtain⟨h2,v2,t2,σ2,k2,⟨w2,q2,rfl,qq2,ft2⟩,S2,f2,m2⟩:=pc _ _ d S1 (by omega) (by omega)
 have lr_2:=lr_1.fr f2 npr
 have F2:=F1.trans f2
 obtain⟨h3,hh3⟩:∃ g:H,g=⟨(h2.t.set h2.nx (.cells [.str [],.str [],.str [],.int .i64 0,.int .i64 0,.sl .full []])).set h2.nx (.cells [.str t2.op,.str t2.name,.str t2.arg,.int .i64 t2.n,.int .i64 t2.at_,.sl w2 q2]),h2.nx+1⟩:=⟨_,rfl⟩
 have g3:Gr h2 h3:=hh3▸bR _ _ _
 have ner_3:h.nx≠h2.nx:=by have:=lr_2.lt;omega
 have nps:h2.nx≠p:=by have:=S2.lt;omega
 have los:h.nx≤h2.nx:=F2.nx
 have lr_3:=lr_2.gr g3
 have F3:=F2.gr g3
 have S3:=S2.gr g3
 have ls_3:Lc h3 h2.nx [.str t2.op,.str t2.name,.str t2.arg,.int .i64 t2.n,.int .i64 t2.at_,.sl w2 q2]:=hh3▸eH _ _ _
 obtain⟨h4,k4,g4⟩:=now_run e S3
 have ok4:=now_ok wf S3
 have mn4:=mu_next wf S3
 have S4:=S3.gr g4
 generalize nowF L _=t4 at k4 ok4 mn4
 simp only[Tk.av]at k4
 have lr_4:=lr_3.gr g4
 have ls_4:=ls_3.gr g4
 have F4:=F3.gr g4
 obtain⟨h5,b5,σ5,k5,S5,f5,mt5,mf5⟩:=eV e wf S4 [58,61]
 have lr_5:=lr_4.fr f5 npr
 have ls_5:=ls_4.fr f5 nps
 have F5:=F4.trans f5
 cases b5 with
 | true=>
  have m5:=mt5 rfl
  obtain⟨h6,v6,t6,σ6,k6,⟨w6,q6,rfl,qq6,ft6⟩,S6,f6,m6⟩:=pc _ _ d S5 (by omega) (by omega)
  have lr_6:=lr_5.fr f6 npr
  have ls_6:=ls_5.fr f6 nps
  have F6:=F5.trans f6
  obtain⟨h7,k7,g7⟩:=eZ e [115,101,116] t4.a .full [.agg [.str t2.op,.str t2.name,.str t2.arg,.int .i64 t2.n,.int .i64 t2.at_,.sl w2 q2],.agg [.str t6.op,.str t6.name,.str t6.arg,.int .i64 t6.n,.int .i64 t6.at_,.sl w6 q6]] h6
  have S7:=S6.gr g7
  have lr_7:=lr_6.gr g7
  have ls_7:=ls_6.gr g7
  have F7:=F6.gr g7
  subst hh1
  subst hh3
  simp[EVT,aT,TYC,TYQ,MTQ,hty,hpl,bytesOf,k2,k4,k5,k6,k7,ls_5.g,ls_6.g,lr_7.g]at hy
  exact⟨_,_,(.mk [115,101,116] [] [] (0) (t4.a) [t2,t6]),_,hy.symm,nv_mk (wk_2 (dF qq2) (dF qq6)) (okl rfl) ok0 ok0 in0 ok4.2.2 (by simp) (fit_2 ft2 ft6),(dB S7 npr),(dC F7 lor),by omega⟩
 | false=>
  have m5:=mf5 rfl
  subst hh1
  subst hh3
  simp[EVT,aT,TYC,TYQ,MTQ,hty,hpl,bytesOf,k2,k4,k5,lr_5.g,ls_5.g]at hy
  exact⟨_,_,t2,_,hy.symm,⟨_,_,rfl,qq2,ft2⟩,(dB S5 npr),(dC F5 lor),by omega⟩
end
end Go.Proofs.YtogjplcnmibnlaaGreatDoor.Pa
