/- The reference's verifier: slices of numbers in the heap; floor, same, takes. -/
import Derived.Test.YtogjplcnmibnlaaGreatDoorKFacts
import Derived.Test.YtogjplcnmibnlaaGreatDoorQE
import Derived.Test.YtogjplcnmibnlaaGreatDoorCN
set_option autoImplicit false
set_option maxRecDepth 100000
set_option maxHeartbeats 8000000
set_option linter.unusedSimpArgs false
set_option linter.unusedVariables false
namespace Go.Proofs.YtogjplcnmibnlaaGreatDoor.Ck
open Go.Ev Go.Proofs.YtogjplcnmibnlaaGreatDoor.Env
open Go.Proofs.YtogjplcnmibnlaaGreatDoor.Pa (Gr cC bR)
attribute [local simp] bC aX bA bT aL aN aQ bX bF bW dE cD aV AV.cells aG aZ val aH bN bP cP bG eI aU aO aM bY bI recheck H.new H.put cT aY bB AV.one setArgs bQ bS bJ aR aP bK
def intA (l:List Nat):List AV:=l.map fun (n:Nat)=>AV.int .i64 (n:Int)
theorem isub (a b:Int):Int.sub a b=a-b:=rfl
theorem intA_len (l:List Nat):(intA l).length=l.length:=by simp[intA]
theorem intA_one (l:List Nat):bB (intA l)=true:=by
 induction l with
 | nil=>rfl
 | cons a l ih=>simp only[intA,List.map_cons,bB,AV.one,Bool.true_and]at ih ⊢;exact ih
theorem intA_take (l:List Nat) (k:Nat):(intA l).take k=intA (l.take k):=by simp[intA]
theorem intA_app (a b:List Nat):intA (a++b)=intA a++intA b:=by simp[intA]
theorem intA_get {l:List Nat} {i n:Nat} (h:l[i]?=some n):(intA l)[i]?=some (.int .i64 ↑n):=by simp[intA,h]
def SR (h:H) (col:Nat→Nat) (k:Nat) (v:AV) (l:List Nat):Prop:=
 (v = .sl .full []∧l=[])∨∃ (id:Nat) (L:List Nat) (n:Nat),n≤L.length∧L.length≤1000000∧l=L.take n∧h.t.get id=some (.row L.length 3 1 (intA L))∧id<h.nx∧col id=k∧(v = .rv id L.length n∨(n=L.length∧v = .rs id L.length true))
structure Fx (P:Nat→Prop) (h:H) (col:Nat→Nat) (h':H) (col':Nat→Nat):Prop where
 nx:h.nx≤h'.nx
 keep:∀ j,j<h.nx→col' j=col j∧(¬ P j→h'.t.get j=h.t.get j)
 fz:(∀ j,h.nx≤j→col j=0)→∀ j,h'.nx≤j→col' j=0
theorem SR.fx {P:Nat→Prop} {h h':H} {col col':Nat→Nat} {k:Nat} {v:AV} {l:List Nat} (s:SR h col k v l) (F:Fx P h col h' col') (hP:∀ j,col j=k→¬ P j):SR h' col' k v l:=by
 rcases s with ⟨rfl,rfl⟩|⟨id,L,n,h1,hb,h2,h3,h4,h5,h6⟩
 ·exact .inl ⟨rfl,rfl⟩
 ·obtain⟨c1,c2⟩:=F.keep id h4
  exact .inr ⟨id,L,n,h1,hb,h2,(c2 (hP id h5)).trans h3,Nat.lt_of_lt_of_le h4 F.nx,by rw[c1];exact h5,h6⟩
theorem Fx.refl (P:Nat→Prop) (h:H) (col:Nat→Nat):Fx P h col h col:=⟨Nat.le_refl _,fun _ _=>⟨rfl,fun _=>rfl⟩,fun h=>h⟩
theorem Fx.trans {P:Nat→Prop} {a b c:H} {x y z:Nat→Nat} (F:Fx P a x b y) (G:Fx P b y c z):Fx P a x c z:=
 ⟨Nat.le_trans F.nx G.nx,fun j hj=>by
  obtain⟨f1,f2⟩:=F.keep j hj
  obtain⟨g1,g2⟩:=G.keep j (Nat.lt_of_lt_of_le hj F.nx)
  exact⟨g1.trans f1,fun hp=>(g2 hp).trans (f2 hp)⟩,fun h=>G.fz (F.fz h)⟩
theorem Fx.gr {h h':H} (g:Gr h h') (P:Nat→Prop) (col:Nat→Nat):Fx P h col h' col:=⟨g.nx,fun j hj=>⟨rfl,fun _=>g.keep j hj⟩,fun hz j hj=>hz j (Nat.le_trans g.nx hj)⟩
theorem SR.gr {h h':H} {col:Nat→Nat} {k:Nat} {v:AV} {l:List Nat} (s:SR h col k v l) (g:Gr h h'):SR h' col k v l:=s.fx (Fx.gr g (fun _=>False) col) fun _ _=>id
theorem SR.cases {h:H} {col:Nat→Nat} {k:Nat} {v:AV} {l:List Nat} (s:SR h col k v l) :
  (v = .sl .full []∧l=[])∨∃ id n L,h.t.get id=some (.row n 3 1 (intA L))∧id<h.nx∧col id=k∧L.length=n∧l.length≤n∧l=L.take l.length∧(v = .rv id n l.length∨(v = .rs id n true∧n=l.length)):=by
 rcases s with h0|⟨id,L,n,h1,hb,h2,h3,h4,h5,h6⟩
 ·exact .inl h0
 ·have hl:l.length=n:=by rw[h2,List.length_take];omega
  refine .inr ⟨id,L.length,L,h3,h4,h5,rfl,by omega,by rw[hl];exact h2,?_⟩
  rcases h6 with h6|⟨h6,h7⟩
  ·exact .inl (by rw[hl];exact h6)
  ·exact .inr ⟨h7,by omega⟩
theorem SR.at {l L:List Nat} {i x:Nat} (h1:l=L.take l.length) (h2:l[i]?=some x):(intA L)[i]?=some (.int .i64 ↑x):=by
 refine intA_get ?_
 have hi:=aI h2
 rw[h1,List.getElem?_take]at h2
 simpa[hi]using h2
structure Sx where
 h:Nat
 d:Nat
 tr:List Nat
structure KOk (E:Go.Ev.Env):Prop where
 ty:E.ty=env.ty
 pl:E.plan=env.plan
 fn:E.fns=env.fns
 no:∀ k∈[13,31,56,57,58,59,93,94,95,96],E.prim k=none
section
variable {E:Go.Ev.Env} {h:H} {col:Nat→Nat}
def cM (l:List Nat):Nat:=l.getLastD 0
theorem body96:Tryz.f96.body=some (aC Tryz.f96 []):=rfl
theorem floor_run (e:KOk E) {v:AV} {l:List Nat} {k:Nat} (s:SR h col k v l) (b:Bool) (x y:Int) (hl:l.length≤1000000):∃ h',evL E 96 [.agg [.bool b,.int .i64 x,.int .i64 y,v]] h=some (.int .i64 ↑(cM l),h')∧Gr h h':=by
 have hty:=e.ty
 have hpl:=e.pl
 generalize hy:evL E 96 _ _=z
 rw[bE E (e.no 96 (by simp)) (by rw[e.fn];kernel_rfl) body96 _ _ rfl]at hy
 simp only[aC,sub,Tryz.f96]at hy
 have hz:aE 0 0=true:=rfl
 rcases s.cases with ⟨rfl,rfl⟩|⟨id,n,L,h1,h2,h3,h4,h5,h6,h7⟩
 ·simp[EVT,aT,TYC,TYK,hty,hz]at hy
  exact⟨_,hy.symm,cC _ _⟩
 ·have hne:id≠h.nx:=by omega
  cases hl0:l with
  | nil=>
   subst hl0
   rcases h7 with rfl|⟨rfl,rfl⟩
   ·simp[EVT,aT,TYC,TYK,hty,hz]at hy
    exact⟨_,hy.symm,cC _ _⟩
   ·simp[EVT,aT,TYC,TYK,hty,hz]at hy
    exact⟨_,hy.symm,cC _ _⟩
  | cons a l'=>
   have hlen:l.length=l'.length+1:=by rw[hl0];rfl
   have hlast:l[l'.length]?=some (cM l):=by
    rw[hl0]
    unfold cM
    rw[List.getLastD_cons]
    rw[List.getLastD_eq_getLast?,List.getLast?_eq_getElem?]
    cases l' with
    | nil=>rfl
    | cons b l''=>simp
   have hat:=SR.at h6 hlast
   have hnz:aE ↑l.length 0=false:=by rw[bU,hlen];simp;omega
   have hw:wr .i64 (↑l.length-1)=↑l'.length:=by rw[wr_eq,hlen];have:=eX (n:=(↑(l'.length+1)-1:Int)) (by omega) (by omega);rw[this];simp
   have hlt:l'.length<l.length:=by omega
   have hln:l'.length<n:=by omega
   rw[←hl0]
   rcases h7 with rfl|⟨rfl,h8⟩
   ·simp[EVT,aT,TYC,TYK,hty,isub,hnz,hw,hlt,h1,hne,hat]at hy
    exact⟨_,hy.symm,cC _ _⟩
   ·rw[←h8]at hnz hw
    simp[EVT,aT,TYC,TYK,hty,isub,hnz,hw,hln,h1,hne,hat]at hy
    exact⟨_,hy.symm,cC _ _⟩
end
section
variable {E:Go.Ev.Env} {h:H} {col:Nat→Nat}
inductive Sl (h:H):AV→List Nat→Prop
 | e:Sl h (.sl .full []) []
 | v (id n:Nat) (L l:List Nat) (h1:h.t.get id=some (.row n 3 1 (intA L))) (h2:l.length≤n) (h3:l=L.take l.length) (h4:id<h.nx):Sl h (.rv id n l.length) l
 | r (id:Nat) (L l:List Nat) (h1:h.t.get id=some (.row l.length 3 1 (intA L))) (h3:l=L.take l.length) (h4:id<h.nx):Sl h (.rs id l.length true) l
theorem SR.sl {k:Nat} {v:AV} {l:List Nat} (s:SR h col k v l):Sl h v l:=by
 rcases s.cases with ⟨rfl,rfl⟩|⟨id,n,L,h1,h2,h3,h4,h5,h6,h7⟩
 ·exact .e
 ·rcases h7 with rfl|⟨rfl,h8⟩
  ·exact .v id n L l h1 h5 h6 h2
  ·subst h8;exact .r id L l h1 h6 h2
theorem Sl.gr {h':H} {v:AV} {l:List Nat} (s:Sl h v l) (g:Gr h h'):Sl h' v l:=by
 cases s with
 | e=>exact .e
 | v id n L l h1 h2 h3 h4=>exact .v id n L l ((g.keep id h4).trans h1) h2 h3 (Nat.lt_of_lt_of_le h4 g.nx)
 | r id L l h1 h3 h4=>exact .r id L l ((g.keep id h4).trans h1) h3 (Nat.lt_of_lt_of_le h4 g.nx)
noncomputable def b94_0:Code:=aK Tryz.f94 0
theorem body94:Tryz.f94.body=some (.seq (aC Tryz.f94 [0]) (.seq (aC Tryz.f94 [1,0]) (.seq (.seq (aC Tryz.f94 [1,1,0,0]) (.block 0 (.loop b94_0))) (aC Tryz.f94 [1,1,1])))):=rfl
theorem loop94 (e:KOk E) {p q:Nat} {a0 a1 a2 c0 c1 c2 va vb:AV} {l:List Nat} (hl:l.length≤1000000) (hp:h.t.get p=some (.cells [a0,a1,a2,va])) (hq:h.t.get q=some (.cells [c0,c1,c2,vb])) (sa:Sl h va l) (sb:Sl h vb l):∀ (m:List Nat) (i:Nat) {tm:Tm} {x:Option (Ex × Tm × H)},cdL E 94 45 (.loop b94_0) tm h=x→m=l.drop i→i≤l.length →
  tm.get 2=some (.ptr (some (p,0)))→tm.get 3=some (.ptr (some (q,0)))→tm.get 5=some (.int .i64 ↑i)→∃ tm',x=some (.exit 0,tm',h)
 | [],i,tm,x,hx,hd,hi,g2,g3,g5=>by
  have hty:=e.ty
  have hpl:=e.pl
  have hlen:=dnil hd hi
  have hc:ltI ↑i ↑l.length=false:=dZ (by omega)
  have hc0:ltI ↑i 0=false∨0<i:=by rcases Nat.eq_zero_or_pos i with rfl|h;exact .inl rfl;exact .inr h
  obtain⟨R,hR,hx⟩:=aS hx
  cases sa with
  | e=>
   have hc:ltI ↑i 0=false:=hc
   simp[b94_0,aK,Tryz.f94,loops,lp,EVT,TYC,TYK,hty,g2,g5,hp,hc]at hx
   exact⟨_,hx.symm⟩
  | v id n L l h1 h2 h3 h4=>
   simp[b94_0,aK,Tryz.f94,loops,lp,EVT,TYC,TYK,hty,g2,g5,hp,hc]at hx
   exact⟨_,hx.symm⟩
  | r id L l h1 h3 h4=>
   simp[b94_0,aK,Tryz.f94,loops,lp,EVT,TYC,TYK,hty,g2,g5,hp,hc]at hx
   exact⟨_,hx.symm⟩
 | a::m,i,tm,x,hx,hd,hi,g2,g3,g5=>by
  have hty:=e.ty
  have hpl:=e.pl
  obtain⟨hlt,ha,hd'⟩:=gC hd
  have hc:ltI ↑i ↑l.length=true:=eR hlt
  have hw:wr .i64 (↑i+1)=↑i+1:=cH (i:=i) (by omega)
  have hz:aE ↑a ↑a=true:=by rw[bU];simp
  obtain⟨R,hR,hx⟩:=aS hx
  have sa0:=sa
  have sb0:=sb
  have fin:∀ {tm':Tm},R tm' h=x→tm'.get 2=some (.ptr (some (p,0)))→tm'.get 3=some (.ptr (some (q,0)))→tm'.get 5=some (.int .i64 ↑(i+1))→∃ tm',x=some (.exit 0,tm',h):=fun h1 h2 h3 h4=>
   loop94 e hl hp hq sa0 sb0 m (i+1) (by rw[←hR];exact h1) hd' hlt h2 h3 h4
  cases sa with
  | e=>simp at hlt
  | v id n L l h1 h2 h3 h4=>
   have ha1:=SR.at h3 ha
   have hin:i<n:=by omega
   cases sb with
   | e=>simp at hlt
   | v id2 n2 L2 l k1 k2 k3 k4=>
    have ha2:=SR.at k3 ha
    have hin2:i<n2:=by omega
    simp[b94_0,aK,Tryz.f94,loops,lp,EVT,TYC,TYK,hty,hpl,g2,g3,g5,hp,hq,hc,hlt,h1,k1,ha1,ha2,hz,hw]at hx
    exact fin hx (by simp[T.aA,g2]) (by simp[T.aA,g3]) (by simp[T.aA])
   | r id2 L2 l k1 k3 k4=>
    have ha2:=SR.at k3 ha
    simp[b94_0,aK,Tryz.f94,loops,lp,EVT,TYC,TYK,hty,hpl,g2,g3,g5,hp,hq,hc,hlt,h1,k1,ha1,ha2,hz,hw]at hx
    exact fin hx (by simp[T.aA,g2]) (by simp[T.aA,g3]) (by simp[T.aA])
  | r id L l h1 h3 h4=>
   have ha1:=SR.at h3 ha
   cases sb with
   | e=>simp at hlt
   | v id2 n2 L2 l k1 k2 k3 k4=>
    have ha2:=SR.at k3 ha
    have hin2:i<n2:=by omega
    simp[b94_0,aK,Tryz.f94,loops,lp,EVT,TYC,TYK,hty,hpl,g2,g3,g5,hp,hq,hc,hlt,h1,k1,ha1,ha2,hz,hw]at hx
    exact fin hx (by simp[T.aA,g2]) (by simp[T.aA,g3]) (by simp[T.aA])
   | r id2 L2 l k1 k3 k4=>
    have ha2:=SR.at k3 ha
    simp[b94_0,aK,Tryz.f94,loops,lp,EVT,TYC,TYK,hty,hpl,g2,g3,g5,hp,hq,hc,hlt,h1,k1,ha1,ha2,hz,hw]at hx
    exact fin hx (by simp[T.aA,g2]) (by simp[T.aA,g3]) (by simp[T.aA])
theorem gr_two (h:H) (x y:Go.Ev.Obj):Gr h ⟨(h.t.set h.nx x).set (h.nx+1) y,h.nx+1+1⟩:=⟨by simp only;omega,fun j hj=>(T.aD _ _ (by omega)).trans (T.aD _ _ (by omega))⟩
theorem same_run (e:KOk E) {b1 b2:Bool} {x y:Int} {va vb:AV} {l:List Nat} (hl:l.length≤1000000) (sa:Sl h va l) (sb:Sl h vb l) :
  ∃ h',evL E 94 [.agg [.bool b1,.int .i64 x,.int .i64 y,va],.agg [.bool b2,.int .i64 x,.int .i64 y,vb]] h=some (.bool true,h')∧Gr h h':=by
 have hty:=e.ty
 have hpl:=e.pl
 have hx0:aE x x=true:=by rw[bU];simp
 have hy0:aE y y=true:=by rw[bU];simp
 have hl0:aE ↑l.length ↑l.length=true:=by rw[bU];simp
 have hz:aE 0 0=true:=rfl
 generalize hy:evL E 94 _ _=z
 rw[bE E (e.no 94 (by simp)) (by rw[e.fn];kernel_rfl) body94 _ _ rfl]at hy
 simp only[aC,sub,Tryz.f94]at hy
 have gg:=gr_two h (.cells [.bool b1,.int .i64 x,.int .i64 y,va]) (.cells [.bool b2,.int .i64 x,.int .i64 y,vb])
 have ne:h.nx≠h.nx+1:=by omega
 have fin:∀ {tm:Tm} {u:Option (Ex × Tm × H)},cdL E 94 45 (.loop b94_0) tm ⟨(h.t.set h.nx (.cells [.bool b1,.int .i64 x,.int .i64 y,va])).set (h.nx+1) (.cells [.bool b2,.int .i64 x,.int .i64 y,vb]),h.nx+1+1⟩=u→tm.get 2=some (.ptr (some (h.nx,0)))→tm.get 3=some (.ptr (some (h.nx+1,0)))→tm.get 5=some (.int .i64 0) →
   ∃ tm',u=some (.exit 0,tm',⟨(h.t.set h.nx (.cells [.bool b1,.int .i64 x,.int .i64 y,va])).set (h.nx+1) (.cells [.bool b2,.int .i64 x,.int .i64 y,vb]),h.nx+1+1⟩):=fun hx h2 h3 h5=>
  loop94 e (p:=h.nx) (q:=h.nx+1) (a0 := .bool b1) (a1 := .int .i64 x) (a2 := .int .i64 y) (c0 := .bool b2) (c1 := .int .i64 x) (c2 := .int .i64 y) (va:=va) (vb:=vb) (l:=l) hl (by simp[T.aA]) (by simp[T.aA]) (sa.gr gg) (sb.gr gg) l 0 hx rfl (Nat.zero_le _) h2 h3 h5
 have sa0:=sa
 have sb0:=sb
 cases sa<;>cases sb
 all_goals simp[EVT,aT,TYC,TYK,hty,hx0,hy0,hl0,hz]at hy
 all_goals generalize hu:cdL E 94 45 (.loop b94_0) _ _=u at hy
 all_goals obtain⟨tm',rfl⟩:=fin hu (by simp[T.aA]) (by simp[T.aA]) (by simp[T.aA])
 all_goals simp[EVT]at hy
 all_goals exact⟨_,hy.symm,gg⟩
def takesF (op:Int):Nat × Nat:=
 bif aE op 1||(aE op 2||(aE op 3||(aE op 4||aE op 5)))then(0,1)
 else bif aE op 6||(aE op 8||(aE op 10||(aE op 12||aE op 13)))then(1,0)
 else bif aE op 7||(aE op 11||(aE op 14||aE op 15))then(0,0)
 else bif aE op 9||(aE op 17||(aE op 18||(aE op 19||(aE op 20||(aE op 21||(aE op 22||(aE op 23||(aE op 24||(aE op 25||aE op 26)))))))))then(2,1)
 else(1,1)
def dO:List Int:=[1,2,3,4,5,6,7,8,9,10,11,12,13,14,15,16,17,18,19,20,21,22,23,24,25,26,27,28,29,30,31,32,33,34,35]
theorem body95:Tryz.f95.body=some (aC Tryz.f95 []):=rfl
theorem takes_run (e:KOk E) (op:Int) (hop:op∈dO) (h:H):evL E 95 [.int .i64 op] h=some (.tup [.int .i64 ↑(takesF op).1,.int .i64 ↑(takesF op).2],h):=by
 have hty:=e.ty
 have hpl:=e.pl
 rw[bE E (e.no 95 (by simp)) (by rw[e.fn];kernel_rfl) body95 _ _ rfl]
 simp only[aC,sub,Tryz.f95]
 simp only[dO,List.mem_cons,List.not_mem_nil,or_false]at hop
 rcases hop with rfl|rfl|rfl|rfl|rfl|rfl|rfl|rfl|rfl|rfl|rfl|rfl|rfl|rfl|rfl|rfl|rfl|rfl|rfl|rfl|rfl|rfl|rfl|rfl|rfl|rfl|rfl|rfl|rfl|rfl|rfl|rfl|rfl|rfl|rfl <;>
  simp[EVT,aT,hty,bU,takesF]
end
end Go.Proofs.YtogjplcnmibnlaaGreatDoor.Ck
namespace Go.Proofs.YtogjplcnmibnlaaGreatDoor.Ck
open Go.Ev Go.Proofs.YtogjplcnmibnlaaGreatDoor.Env
open Go.Proofs.YtogjplcnmibnlaaGreatDoor.Pa (Gr cC bR)
structure Pg where
 C:List (List Ins)
 S:List Str
 dep:Nat
 τ:Nat→List Sx
 D:Nat→Nat
def fR (i:Ins):AV := .agg [.int .i64 i.op,.int .i64 i.n]
def cN (c:List Ins):AV := .agg [.sl .no (c.map fR)]
def cellS (x:Sx):Option AV→List AV
 | none=>[.bool false,.int .i64 0,.int .i64 0,.sl .full []]
 | some v=>[.bool true,.int .i64 ↑x.h,.int .i64 ↑x.d,v]
def cellsOf:List Sx→List (Option AV)→List AV
 | x::t,v::vs=>cellS x v++cellsOf t vs
 | _,_=>[]
theorem cellS_len (x:Sx) (v:Option AV):(cellS x v).length=4:=by cases v<;>rfl
theorem eB:∀ {t:List Sx} {vs:List (Option AV)},vs.length=t.length→(cellsOf t vs).length=t.length*4
 | [],[],_=>rfl
 | x::t,v::vs,h=>by
  simp only[cellsOf,List.length_append,cellS_len,List.length_cons]
  rw[eB (by simpa using h)]
  omega
theorem eK:∀ {t:List Sx} {vs:List (Option AV)} {i:Nat} {x:Sx} {v:Option AV},t[i]?=some x→vs[i]?=some v→((cellsOf t vs).drop (i*4)).take 4=cellS x v
 | y::t,u::vs,0,x,v,h1,h2=>by
  simp only[List.getElem?_cons_zero,Option.some.injEq]at h1 h2
  subst h1;subst h2
  rw[cellsOf,Nat.zero_mul,List.drop_zero,List.take_left' (cellS_len _ _)]
 | y::t,u::vs,i+1,x,v,h1,h2=>by
  simp only[List.getElem?_cons_succ]at h1 h2
  rw[cellsOf,show(i+1)*4=(cellS y u).length+i*4 by rw[cellS_len];omega,List.drop_append]
  rw[List.drop_of_length_le (by omega),List.nil_append,Nat.add_sub_cancel_left]
  exact eK h1 h2
theorem fillAt_zero4 (a b c d:AV) (l:List AV) (e f g k:AV):aY ([a,b,c,d]++l) 0 [e,f,g,k]=[e,f,g,k]++l:=by
 cases l<;>rfl
theorem fillAt_app:∀ (a l vs:List AV) (n:Nat),aY (a++l) (a.length+n) vs=a++aY l n vs
 | [],l,vs,n=>by simp
 | x::a,l,vs,n=>by
  rw[List.length_cons,show a.length+1+n=(a.length+n)+1 by omega,List.cons_append]
  cases vs<;>simp[aY,fillAt_app a l _ n]
theorem cellsOf_set:∀ {t:List Sx} {vs:List (Option AV)} {i:Nat} {x:Sx} {v:AV},t[i]?=some x→vs.length=t.length→aY (cellsOf t vs) (i*4) [.bool true,.int .i64 ↑x.h,.int .i64 ↑x.d,v]=cellsOf t (vs.set i (some v))
 | y::t,u::vs,0,x,v,h1,h2=>by
  simp only[List.getElem?_cons_zero,Option.some.injEq]at h1
  subst h1
  rw[cellsOf,Nat.zero_mul,List.set_cons_zero,cellsOf]
  cases u<;>exact fillAt_zero4 _ _ _ _ _ _ _ _ _
 | y::t,u::vs,i+1,x,v,h1,h2=>by
  simp only[List.getElem?_cons_succ]at h1
  rw[cellsOf,show(i+1)*4=(cellS y u).length+i*4 by rw[cellS_len];omega,fillAt_app,List.set_cons_succ,cellsOf,cellsOf_set h1 (by simpa using h2)]
def rowsA (K:Pg) (sid:Nat→Nat):List AV:=(List.range K.C.length).map fun k => .rs (sid k) (K.τ k).length true
theorem fW (K:Pg) (sid:Nat→Nat) {k:Nat} (h:k<K.C.length):(rowsA K sid)[k]?=some (.rs (sid k) (K.τ k).length true):=by
 simp[rowsA,h]
def intI (l:List Int):List AV:=l.map fun (n:Int)=>AV.int .i64 n
structure Cq where
 fv:AV
 tv:AV
 us:List Nat
 ts:List Nat
 f:Nat
 fr:List Int
 V:Nat→List (Option AV)
structure CK (K:Pg) (c fid:Nat) (sid:Nat→Nat) (ws:Go.Ev.Own) (h:H) (col:Nat→Nat) (q:Cq):Prop where
 g:h.t.get c=some (.cells [.int .i64 ↑K.dep,.sl .no (K.C.map cN),.sl .no (strs K.S),.sl ws (rowsA K sid),.rs fid K.C.length true,.bool true,q.fv,q.tv,.int .i64 ↑q.f])
 frl:q.fr.length=K.C.length
 fr:h.t.get fid=some (.row K.C.length 3 1 (intI q.fr))
 rl:∀ k,k<K.C.length→(q.V k).length=(K.τ k).length
 rows:∀ k,k<K.C.length→h.t.get (sid k)=some (.row (K.τ k).length 107 4 (cellsOf (K.τ k) (q.V k)))
 fu:SR h col 4 q.fv q.us
 tdo:SR h col 5 q.tv q.ts
 vals:∀ (k i:Nat) (v:AV) (x:Sx),k<K.C.length→(q.V k)[i]?=some (some v)→(K.τ k)[i]?=some x→SR h col 6 v x.tr
 cc:col c=1∧c<h.nx
 cf:col fid=2∧fid<h.nx
 cs:∀ k,k<K.C.length→col (sid k)=3∧sid k<h.nx
 inj:∀ k j,k<K.C.length→j<K.C.length→sid k=sid j→k=j
 uss:∀ n∈q.us,n<K.C.length∧q.fr[n]?=some ↑(K.D n)
 frs:∀ n,n<K.C.length→q.fr[n]?=some (-1)∨q.fr[n]?=some ↑(K.D n)
 tss:∀ i∈q.ts,∃ v,(q.V q.f)[i]?=some (some v)
 ff:q.f<K.C.length
 fz:∀ j,h.nx≤j→col j=0
section
variable {K:Pg} {c fid:Nat} {sid:Nat→Nat} {ws:Go.Ev.Own} {h h':H} {col col':Nat→Nat} {q:Cq}
theorem CK.fx {P:Nat→Prop} (k:CK K c fid sid ws h col q) (F:Fx P h col h' col') (hP:∀ j,1≤col j→col j≤6→¬ P j):CK K c fid sid ws h' col' q where
 g:=((F.keep c k.cc.2).2 (hP c (by rw[k.cc.1];omega) (by rw[k.cc.1];omega))).trans k.g
 frl:=k.frl
 fr:=((F.keep fid k.cf.2).2 (hP fid (by rw[k.cf.1];omega) (by rw[k.cf.1];omega))).trans k.fr
 rl:=k.rl
 rows:=fun j hj=>((F.keep (sid j) (k.cs j hj).2).2 (hP _ (by rw[(k.cs j hj).1];omega) (by rw[(k.cs j hj).1];omega))).trans (k.rows j hj)
 fu:=k.fu.fx F fun j hj=>hP j (by omega) (by omega)
 tdo:=k.tdo.fx F fun j hj=>hP j (by omega) (by omega)
 vals:=fun a i v x ha hv hx=>(k.vals a i v x ha hv hx).fx F fun j hj=>hP j (by omega) (by omega)
 cc:=⟨by rw[(F.keep c k.cc.2).1];exact k.cc.1,Nat.lt_of_lt_of_le k.cc.2 F.nx⟩
 cf:=⟨by rw[(F.keep fid k.cf.2).1];exact k.cf.1,Nat.lt_of_lt_of_le k.cf.2 F.nx⟩
 cs:=fun j hj=>⟨by rw[(F.keep _ (k.cs j hj).2).1];exact(k.cs j hj).1,Nat.lt_of_lt_of_le (k.cs j hj).2 F.nx⟩
 inj:=k.inj
 uss:=k.uss
 frs:=k.frs
 tss:=k.tss
 ff:=k.ff
 fz:=F.fz k.fz
theorem CK.gr (k:CK K c fid sid ws h col q) (g:Gr h h'):CK K c fid sid ws h' col q:=k.fx (Fx.gr g (fun _=>False) col) fun _ _ _=>id
theorem appR_sr {k:Nat} {v:AV} {l:List Nat} (s:SR h col k v l) (hl:l.length<1000000) {i1 x:Nat} (h1:h.t.get i1=some (.row 1 3 1 [.int .i64 ↑x])) :
  ∃ v' h' col',eQ 3 1 8 h v (.rs i1 1 true)=some (v',h')∧SR h' col' k v' (l++[x])∧Fx (fun j=>col j=k) h col h' col':=by
 have hr:eO 1 h (.rs i1 1 true)=some (1,[.int .i64 ↑x]):=by simp[eO,h1,bB,AV.one]
 have nil:∃ v' h' col',eQ 3 1 8 h (.sl .full []) (.rs i1 1 true)=some (v',h')∧SR h' col' k v' ([]++[x])∧Fx (fun j=>col j=k) h col h' col':=by
  refine⟨.rs h.nx 1 true,h.new (.row 1 3 1 [.int .i64 ↑x]),fun j=>if j=h.nx then k else col j,?_,.inr ⟨h.nx,[x],1,Nat.le_refl _,by simp,rfl,T.bO _ _ _,Nat.lt_succ_self _,by simp,.inr ⟨rfl,rfl⟩⟩,Nat.le_succ _,fun j hj=>⟨if_neg (by omega),fun _=>T.aD _ _ (by omega)⟩,fun hz j hj=>by
   have h1:h.nx+1≤j:=hj
   show(if j=h.nx then k else col j)=0
   rw[if_neg (by omega)]
   exact hz j (by omega)⟩
  unfold eQ
  rw[hr]
  simp[ble_dec,blt_dec,fM]
 rcases s with ⟨rfl,rfl⟩|⟨id,L,n,hn,hLb,hl2,hg,hid,hc,hv⟩
 ·exact nil
 ·have hlen:l.length=n:=by rw[hl2,List.length_take];omega
  have fx:∀ X,Fx (fun j=>col j=k) h col (h.put id X) col:=fun X=>⟨Nat.le_refl _,fun j hj=>⟨rfl,fun hne=>T.aD _ _ (fun e=>hne (by rw[e];exact hc))⟩,fun hz=>hz⟩
  have full:n=L.length→∀ w,(w = .rs id L.length true∨w = .rv id L.length L.length)→∃ v' h' col',eQ 3 1 8 h w (.rs i1 1 true)=some (v',h')∧SR h' col' k v' (l++[x])∧Fx (fun j=>col j=k) h col h' col':=by
   intro hnL w hw
   have hL:l=L:=by rw[hl2,hnL];exact List.take_length
   subst hL
   have hb:(l.length+1)*8≤140737488355328:=by omega
   have hl1:(l++[x]).length=l.length+1:=by simp
   refine⟨.rs id (l.length+1) true,h.put id (.row (l.length+1) 3 1 (intA l++[.int .i64 ↑x])),col,?_,.inr ⟨id,l++[x],l.length+1,by omega,by omega,by rw[←hl1,List.take_length],?_,hid,hc,.inr ⟨hl1.symm,by rw[hl1]⟩⟩,fx _⟩
   ·unfold eQ
    rw[hr]
    rcases hw with rfl|rfl<;>simp[hg,ble_dec,blt_dec,fM,hb]
   ·rw[intA_app,List.length_append];exact T.bO _ _ _
  rcases hv with rfl|⟨e1,rfl⟩
  ·rcases Nat.lt_or_ge n L.length with hlt|hge
   ·have hb:(L.length+1)*8≤140737488355328:=by omega
    have hne:L.length≠n:=by omega
    have hfill:∀ (M:List AV) (a:AV) (i:Nat),aY M i [a]=M.set i a:=by
     intro M a
     induction M with
     | nil=>intro i;cases i<;>rfl
     | cons b M ih=>intro i;cases i with
      | zero=>cases M<;>rfl
      | succ i=>simp[aY,ih i]
    refine⟨.rv id L.length (n+1),h.put id (.row L.length 3 1 ((intA L).set n (.int .i64 ↑x))),col,?_,.inr ⟨id,L.set n x,n+1,by simp;omega,by simp;omega,?_,?_,hid,hc,.inl (by simp)⟩,fx _⟩
    ·unfold eQ
     rw[hr]
     have hlt':n+1≤L.length:=hlt
     simp[hg,ble_dec,blt_dec,fM,hb,hne,hlt',hfill]
    ·rw[hl2]
     apply List.ext_getElem?
     intro i
     simp only[List.getElem?_append,List.getElem?_take,List.getElem?_set,List.length_take,Nat.min_eq_left hn]
     rcases Nat.lt_trichotomy i n with h1|h1|h1
     ·have:i<n+1:=by omega
      have h2:¬ n=i:=by omega
      simp[h1,this,h2]
     ·subst h1
      simp[hlt]
     ·have:¬ i<n+1:=by omega
      have h2:¬ i<n:=by omega
      simp[this,h2]
      omega
    ·rw[List.length_set]
     rw[show intA (L.set n x)=(intA L).set n (.int .i64 ↑x) by simp[intA,List.map_set]]
     exact T.bO _ _ _
   ·have:n=L.length:=by omega
    exact full this _ (.inr (by rw[this]))
  ·exact full e1 _ (.inl rfl)
end
end Go.Proofs.YtogjplcnmibnlaaGreatDoor.Ck
namespace Go.Proofs.YtogjplcnmibnlaaGreatDoor.Ck
open Go.Ev Go.Proofs.YtogjplcnmibnlaaGreatDoor.Env
open Go.Proofs.YtogjplcnmibnlaaGreatDoor.Pa (Gr cC bR)
attribute [local simp] bC aX bA bT aL aN aQ bX bF bW dE cD aV AV.cells aG aZ val aH bN bP cP bG eI aU aO aM bY bI recheck H.new H.put cT aY bB AV.one setArgs bQ bS bJ aR aP bK
def hasN (op:Int):Bool:=aE op 1||(aE op 2||(aE op 3||(aE op 4||(aE op 5||(aE op 11||(aE op 12||(aE op 13||aE op 14)))))))
def Pg.av (K:Pg):AV := .agg [.int .i64 ↑K.dep,.sl .no (K.C.map cN),.sl .no (strs K.S)]
structure InsOk (i:Ins):Prop where
 op:i.op∈dO
 n:aE i.n 0=true∨hasN i.op=true
structure Is13 (K:Pg):Prop where
 dep:K.dep≤4
 s:K.S.length≤2000
 sl:∀ s∈K.S,s.s.length≤2000
 c:K.C.length≤200
 cl:∀ c∈K.C,c.length≤4000
 ins:∀ c∈K.C,∀ i∈c,InsOk i
section
variable {E:Go.Ev.Env} {K:Pg}
theorem body93:Tryz.f93.body=some (aC Tryz.f93 []):=rfl
theorem hasN_run (e:KOk E) (op:Int) (hop:op∈dO) (h:H):evL E 93 [.int .i64 op] h=some (.bool (hasN op),h):=by
 have hty:=e.ty
 have hpl:=e.pl
 rw[bE E (e.no 93 (by simp)) (by rw[e.fn];kernel_rfl) body93 _ _ rfl]
 simp only[aC,sub,Tryz.f93]
 simp only[dO,List.mem_cons,List.not_mem_nil,or_false]at hop
 rcases hop with rfl|rfl|rfl|rfl|rfl|rfl|rfl|rfl|rfl|rfl|rfl|rfl|rfl|rfl|rfl|rfl|rfl|rfl|rfl|rfl|rfl|rfl|rfl|rfl|rfl|rfl|rfl|rfl|rfl|rfl|rfl|rfl|rfl|rfl|rfl <;>
  simp[EVT,aT,hty,bU,hasN]
theorem ops_range {op:Int} (hop:op∈dO):ltI op 1=false∧ltI 35 op=false:=by
 simp only[dO,List.mem_cons,List.not_mem_nil,or_false]at hop
 rcases hop with rfl|rfl|rfl|rfl|rfl|rfl|rfl|rfl|rfl|rfl|rfl|rfl|rfl|rfl|rfl|rfl|rfl|rfl|rfl|rfl|rfl|rfl|rfl|rfl|rfl|rfl|rfl|rfl|rfl|rfl|rfl|rfl|rfl|rfl|rfl<;>exact⟨rfl,rfl⟩
noncomputable def b56_0:Code:=aK Tryz.f56 0
noncomputable def b56_1:Code:=aK Tryz.f56 1
noncomputable def b56_2:Code:=aK Tryz.f56 2
theorem body56:Tryz.f56.body=some (.seq (aC Tryz.f56 [0]) (.seq (aC Tryz.f56 [1,0]) (.seq (.seq (aC Tryz.f56 [1,1,0,0]) (.block 0 (.loop b56_0))) (.seq (.seq (aC Tryz.f56 [1,1,1,0,0]) (.block 2 (.loop b56_1))) (aC Tryz.f56 [1,1,1,1]))))):=rfl
theorem lb56_1:b56_1=(.seq (aC Tryz.f56 [1,1,1,0,1,0,0,0]) (.seq (.block 3 (.seq (aC Tryz.f56 [1,1,1,0,1,0,0,1,0,0,0]) (.seq (aC Tryz.f56 [1,1,1,0,1,0,0,1,0,0,1,0]) (.block 4 (.loop b56_2))))) (aC Tryz.f56 [1,1,1,0,1,0,0,1,1]))):=rfl
theorem loop56_0 (e:KOk E) (hI:Is13 K) {p:Nat} {h:H} (hp:h.t.get p=some (.cells [.int .i64 ↑K.dep,.sl .no (K.C.map cN),.sl .no (strs K.S)])):∀ (m:List Str) (i:Nat) {tm:Tm} {x:Option (Ex × Tm × H)},m=K.S.drop i→i≤K.S.length→cdL E 56 92 (.loop b56_0) tm h=x →
  tm.get 1=some (.ptr (some (p,0)))→tm.get 3=some (.int .i64 ↑i)→∃ tm',x=some (.exit 0,tm',h)∧tm'.get 1=some (.ptr (some (p,0)))
 | [],i,tm,x,hd,hi,hx,g1,g3=>by
  have hty:=e.ty
  have hpl:=e.pl
  have hl:=dnil hd hi
  have hil:=cA K.S
  have hc:ltI ↑i ↑K.S.length=false:=dZ (by omega)
  obtain⟨R,hR,hx⟩:=aS hx
  simp[b56_0,aK,Tryz.f56,loops,lp,EVT,TYC,TYK,hty,hp,g1,g3,hil,hc]at hx
  exact⟨_,hx.symm,by simp[T.aA,g1]⟩
 | s::m,i,tm,x,hd,hi,hx,g1,g3=>by
  have hty:=e.ty
  have hpl:=e.pl
  obtain⟨hlt,hs,hd'⟩:=gC hd
  have hil:=cA K.S
  have hc:ltI ↑i ↑K.S.length=true:=eR hlt
  have hsl:=hI.sl s (List.mem_of_getElem? hs)
  have hc2:ltI 2000 ↑s.s.length=false:=by rw[dI];simp;omega
  have hw:wr .i64 (↑i+1)=↑i+1:=cH (i:=i) (by have:=hI.s;omega)
  have hat:(strs K.S)[i]?=some (.str s.s):=by simp[strs,hs]
  obtain⟨R,hR,hx⟩:=aS hx
  simp[b56_0,aK,Tryz.f56,loops,lp,EVT,TYC,TYK,hty,hp,g1,g3,hil,hc,hat,hc2,hw]at hx
  rw[hR]at hx
  exact loop56_0 e hI hp m (i+1) hd' hlt hx (by simp[T.aA,g1]) (by simp[T.aA])
theorem loop56_2 (e:KOk E) {p f:Nat} {co:List Ins} (hco:K.C[f]?=some co) (hcl:co.length≤4000) (hins:∀ i∈co,InsOk i):∀ (m:List Ins) (i:Nat) {tm:Tm} {h:H} {x:Option (Ex × Tm × H)},m=co.drop i→i≤co.length→cdL E 56 92 (.loop b56_2) tm h=x →
  h.t.get p=some (.cells [.int .i64 ↑K.dep,.sl .no (K.C.map cN),.sl .no (strs K.S)])→p<h.nx→tm.get 1=some (.ptr (some (p,0)))→tm.get 4=some (.int .i64 ↑f)→tm.get 5=some (.int .i64 ↑i) →
  ∃ tm' h',x=some (.exit 4,tm',h')∧tm'.get 1=some (.ptr (some (p,0)))∧tm'.get 4=some (.int .i64 ↑f)∧Gr h h'
 | [],i,tm,h,x,hd,hi,hx,hp,hpl2,g1,g4,g5=>by
  have hty:=e.ty
  have hpl:=e.pl
  have hl:=dnil hd hi
  have hc:ltI ↑i ↑co.length=false:=dZ (by omega)
  have hpa:(K.C.map cN)[f]?=some (cN co):=by simp[hco]
  obtain⟨R,hR,hx⟩:=aS hx
  simp[b56_2,aK,Tryz.f56,loops,lp,EVT,TYC,TYK,hty,hp,g1,g4,g5,hpa,cN,hc]at hx
  exact⟨_,_,hx.symm,by simp[T.aA,g1],by simp[T.aA,g4],⟨Nat.le_refl _,fun _ _=>rfl⟩⟩
 | s::m,i,tm,h,x,hd,hi,hx,hp,hpl2,g1,g4,g5=>by
  have hty:=e.ty
  have hpl:=e.pl
  obtain⟨hlt,hs,hd'⟩:=gC hd
  have hc:ltI ↑i ↑co.length=true:=eR hlt
  have hpa:(K.C.map cN)[f]?=some (cN co):=by simp[hco]
  have hia:(co.map fR)[i]?=some (fR s):=by simp[hs]
  have ok:=hins s (List.mem_of_getElem? hs)
  obtain⟨r1,r2⟩:=ops_range ok.op
  have kN:=hasN_run e s.op ok.op
  have hw:wr .i64 (↑i+1)=↑i+1:=cH (i:=i) (by omega)
  have nep:p≠h.nx:=by omega
  have key:∀ {tm':Tm} {h2:H},Gr h h2→cdL E 56 92 (.loop b56_2) tm' h2=x→tm'.get 1=some (.ptr (some (p,0)))→tm'.get 4=some (.int .i64 ↑f)→tm'.get 5=some (.int .i64 ↑(i+1))→∃ tm' h',x=some (.exit 4,tm',h')∧tm'.get 1=some (.ptr (some (p,0)))∧tm'.get 4=some (.int .i64 ↑f)∧Gr h h':=by
   intro tm1 h2 G hx1 t1 t4 t5
   obtain⟨tm',h',q1,q2,q3,q4⟩:=loop56_2 e hco hcl hins m (i+1) hd' hlt hx1 ((G.keep p hpl2).trans hp) (Nat.lt_of_lt_of_le hpl2 G.nx) t1 t4 t5
   exact⟨tm',h',q1,q2,q3,G.trans q4⟩
  obtain⟨R,hR,hx⟩:=aS hx
  cases hz:aE s.n 0 with
  | true=>
   simp[b56_2,aK,Tryz.f56,loops,lp,EVT,TYC,TYK,hty,hp,g1,g4,g5,hpa,cN,hc,hia,fR,r1,r2,hz,hw]at hx
   rw[hR]at hx
   exact key (bR _ _ _) hx (by simp[T.aA,g1]) (by simp[T.aA,g4]) (by simp[T.aA])
  | false=>
   have hN:hasN s.op=true:=by rcases ok.n with h1|h1;rw[hz]at h1;cases h1;exact h1
   simp[b56_2,aK,Tryz.f56,loops,lp,EVT,TYC,TYK,hty,hp,g1,g4,g5,hpa,cN,hc,hia,fR,r1,r2,hz,hN,kN,hw]at hx
   rw[hR]at hx
   exact key (bR _ _ _) hx (by simp[T.aA,g1]) (by simp[T.aA,g4]) (by simp[T.aA])
theorem loop56_1 (e:KOk E) (hI:Is13 K) {p:Nat}:∀ (m:List (List Ins)) (f:Nat) {tm:Tm} {h:H} {x:Option (Ex × Tm × H)},m=K.C.drop f→f≤K.C.length→cdL E 56 92 (.loop b56_1) tm h=x →
  h.t.get p=some (.cells [.int .i64 ↑K.dep,.sl .no (K.C.map cN),.sl .no (strs K.S)])→p<h.nx→tm.get 1=some (.ptr (some (p,0)))→tm.get 4=some (.int .i64 ↑f) →
  ∃ tm' h',x=some (.exit 2,tm',h')∧Gr h h'
 | [],f,tm,h,x,hd,hi,hx,hp,hpl2,g1,g4=>by
  have hty:=e.ty
  have hpl:=e.pl
  have hl:=dnil hd hi
  have hc:ltI ↑f ↑K.C.length=false:=dZ (by omega)
  obtain⟨R,hR,hx⟩:=aS hx
  rw[lb56_1]at hx
  simp[aC,sub,Tryz.f56,lp,EVT,TYC,TYK,hty,hp,g1,g4,hc]at hx
  exact⟨_,_,hx.symm,⟨Nat.le_refl _,fun _ _=>rfl⟩⟩
 | co::m,f,tm,h,x,hd,hi,hx,hp,hpl2,g1,g4=>by
  have hty:=e.ty
  have hpl:=e.pl
  obtain⟨hlt,hco,hd'⟩:=gC hd
  have hc:ltI ↑f ↑K.C.length=true:=eR hlt
  have hpa:(K.C.map cN)[f]?=some (cN co):=by simp[hco]
  have hcl:=hI.cl co (List.mem_of_getElem? hco)
  have hc2:ltI 4000 ↑co.length=false:=by rw[dI];simp;omega
  have hw:wr .i64 (↑f+1)=↑f+1:=cH (i:=f) (by have:=hI.c;omega)
  obtain⟨R,hR,hx⟩:=aS hx
  rw[lb56_1]at hx
  simp[aC,sub,Tryz.f56,lp,EVT,TYC,TYK,hty,hp,g1,g4,hc,hpa,cN,hc2]at hx
  generalize hu:cdL E 56 92 (.loop b56_2) _ _=u at hx
  obtain⟨tm2,h2,rfl,t1,t4,G⟩:=loop56_2 e (p:=p) hco hcl (hI.ins co (List.mem_of_getElem? hco)) co 0 rfl (Nat.zero_le _) hu hp hpl2 (by simp[T.aA,g1]) (by simp[T.aA,g4]) (by simp[T.aA])
  simp[EVT,t4,hw]at hx
  rw[hR]at hx
  obtain⟨tm',h',q1,q2⟩:=loop56_1 e hI m (f+1) hd' hlt hx ((G.keep p hpl2).trans hp) (Nat.lt_of_lt_of_le hpl2 G.nx) (by simp[T.aA,t1]) (by simp[T.aA])
  exact⟨tm',h',q1,G.trans q2⟩
theorem is13_run (e:KOk E) (hI:Is13 K) (h:H):∃ h',evL E 56 [K.av] h=some (.bool true,h')∧Gr h h':=by
 have hty:=e.ty
 have hpl:=e.pl
 have hil:=cA K.S
 have d1:ltI ↑K.dep 0=false:=by rw[dI];simp
 have d2:ltI 4 ↑K.dep=false:=by have:=hI.dep;rw[dI];simp;omega
 have d3:ltI 2000 ↑K.S.length=false:=by have:=hI.s;rw[dI];simp;omega
 have d4:ltI 200 ↑K.C.length=false:=by have:=hI.c;rw[dI];simp;omega
 generalize hy:evL E 56 _ _=y
 rw[bE E (e.no 56 (by simp)) (by rw[e.fn];kernel_rfl) body56 _ _ rfl]at hy
 simp only[aC,sub,Tryz.f56]at hy
 simp[EVT,aT,TYC,TYK,hty,Pg.av,hil,d1,d2,d3,d4]at hy
 have G0:=cC h (.cells [.int .i64 ↑K.dep,.sl .no (K.C.map cN),.sl .no (strs K.S)])
 generalize hu:cdL E 56 92 (.loop b56_0) _ _=u at hy
 obtain⟨tm2,rfl,t1⟩:=loop56_0 e hI (p:=h.nx) (by simp[T.aA]) K.S 0 rfl (Nat.zero_le _) hu (by simp[T.aA]) (by simp[T.aA])
 simp at hy
 generalize hu2:cdL E 56 92 (.loop b56_1) _ _=u at hy
 obtain⟨tm3,h3,rfl,G⟩:=loop56_1 e hI (p:=h.nx) K.C 0 rfl (Nat.zero_le _) hu2 (by simp[T.aA]) (by simp) (by simp[T.aA,t1]) (by simp[T.aA])
 simp[EVT]at hy
 exact⟨_,hy.symm,G0.trans G⟩
end
end Go.Proofs.YtogjplcnmibnlaaGreatDoor.Ck
namespace Go.Proofs.YtogjplcnmibnlaaGreatDoor.Ck
open Go.Ev Go.Proofs.YtogjplcnmibnlaaGreatDoor.Env
open Go.Proofs.YtogjplcnmibnlaaGreatDoor.Pa (Gr cC bR)
def un:List Int→Nat
 | []=>0
 | x::l=>un l+(bif aE x (-1)then 1 else 0)
theorem un_set:∀ {l:List Int} {n:Nat} {y:Int},l[n]?=some (-1)→aE y (-1)=false→un (l.set n y)+1=un l
 | x::l,0,y,h1,h2=>by
  simp only[List.getElem?_cons_zero,Option.some.injEq]at h1
  subst h1
  have hz:aE (-1) (-1)=true:=rfl
  simp[un,h2,hz]
 | x::l,n+1,y,h1,h2=>by
  simp only[List.getElem?_cons_succ]at h1
  have:=un_set h1 h2
  simp only[List.set_cons_succ,un]
  omega
def uv:List (Option AV)→Nat
 | []=>0
 | x::l=>uv l+(bif x.isNone then 1 else 0)
theorem uv_set:∀ {l:List (Option AV)} {n:Nat} {y:AV},l[n]?=some none→uv (l.set n (some y))+1=uv l
 | x::l,0,y,h1=>by
  simp only[List.getElem?_cons_zero,Option.some.injEq]at h1
  subst h1
  simp[uv]
 | x::l,n+1,y,h1=>by
  simp only[List.getElem?_cons_succ]at h1
  have:=uv_set (y:=y) h1
  simp only[List.set_cons_succ,uv]
  omega
theorem fillAt_one (M:List AV) (a:AV):∀ i,aY M i [a]=M.set i a:=by
 induction M with
 | nil=>intro i;cases i<;>rfl
 | cons b M ih=>intro i;cases i with
  | zero=>cases M<;>rfl
  | succ i=>simp[aY,ih i]
theorem SR.shape {h:H} {col:Nat→Nat} {k:Nat} {v:AV} {l:List Nat} (s:SR h col k v l):v = .sl .full []∨(∃ id n,v = .rs id n true)∨∃ id n m,v = .rv id n m:=by
 rcases s with ⟨rfl,_⟩|⟨id,L,n,_,_,_,_,_,_,hv⟩
 ·exact .inl rfl
 ·rcases hv with rfl|⟨_,rfl⟩
  ·exact .inr (.inr ⟨_,_,_,rfl⟩)
  ·exact .inr (.inl ⟨_,_,rfl⟩)
def Mut (col:Nat→Nat) (j:Nat):Prop:=1≤col j∧col j≤5
theorem Fx.mut {P:Nat→Prop} {h h':H} {col col':Nat→Nat} (F:Fx P h col h' col') (hP:∀ j,P j→Mut col j):Fx (Mut col) h col h' col':=⟨F.nx,fun j hj=>⟨(F.keep j hj).1,fun hm=>(F.keep j hj).2 fun hp=>hm (hP j hp)⟩,F.fz⟩
section
variable {E:Go.Ev.Env} {K:Pg} {c fid:Nat} {sid:Nat→Nat} {ws:Go.Ev.Own} {h h':H} {col col':Nat→Nat} {q:Cq}
theorem CK.ne_cf (k:CK K c fid sid ws h col q):c≠fid:=fun e=>by have h1:=k.cc.1;have h2:=k.cf.1;rw[e]at h1;omega
theorem CK.ne_cs (k:CK K c fid sid ws h col q) {j:Nat} (hj:j<K.C.length):c≠sid j:=fun e=>by have h1:=k.cc.1;have h2:=(k.cs j hj).1;rw[e]at h1;omega
theorem CK.ne_fs (k:CK K c fid sid ws h col q) {j:Nat} (hj:j<K.C.length):fid≠sid j:=fun e=>by have h1:=k.cf.1;have h2:=(k.cs j hj).1;rw[e]at h1;omega
def Wq (q:Cq):Nat:=un q.fr+q.us.length
theorem body57:Tryz.f57.body=some (aC Tryz.f57 []):=rfl
theorem begin_run (e:KOk E) (k:CK K c fid sid ws h col q) {n:Nat} (hn:n<K.C.length) (hus:q.us.length<1000000) :
  ∃ h' col' q',evL E 57 [.ptr (some (c,0)),.int .i64 ↑n,.int .i64 ↑(K.D n)] h=some (.tup [],h')∧CK K c fid sid ws h' col' q'∧Fx (Mut col) h col h' col'∧q'.tv=q.tv∧q'.ts=q.ts∧q'.f=q.f∧q'.V=q.V∧Wq q'=Wq q∧∃ l,q'.us=q.us++l:=by
 have hty:=e.ty
 have hpl:=e.pl
 have hg:=k.g
 have hfr:=k.fr
 have n0:ltI ↑n 0=false:=by rw[dI];simp
 have n1:ltI ↑n ↑K.C.length=true:=eR hn
 have ncf:=k.ne_cf
 have hcl:=k.cc.2
 have hfl:=k.cf.2
 have nc1:c≠h.nx:=by omega
 have nf1:fid≠h.nx:=by omega
 have lfr:n<q.fr.length:=by rw[k.frl];exact hn
 rcases k.frs n hn with hx|hx
 ·have hxa:(intI q.fr)[n]?=some (.int .i64 (-1)):=by simp[intI,hx]
  have hz:aE (-1) (-1)=true:=rfl
  have hset:aY (intI q.fr) n [.int .i64 ↑(K.D n)]=intI (q.fr.set n ↑(K.D n)):=by rw[fillAt_one];simp[intI,List.map_set]
  have hll:(intI q.fr).length=K.C.length:=by simp[intI,k.frl]
  have hxg:∀ hh:n<(intI q.fr).length,(intI q.fr)[n]'hh = .int .i64 (-1):=fun hh=>by rw[List.getElem?_eq_getElem hh]at hxa;exact Option.some.inj hxa
  have hn':n+1≤K.C.length:=hn
  obtain⟨hA,hhA⟩:∃ g:H,g=⟨(h.t.set fid (.row K.C.length 3 1 (intI (q.fr.set n ↑(K.D n))))).set h.nx (.row 1 3 1 [.int .i64 ↑n]),h.nx+1⟩:=⟨_,rfl⟩
  have FA:Fx (fun j=>j=fid) h col hA col:=by
   rw[hhA]
   exact⟨Nat.le_succ _,fun j hj=>⟨rfl,fun hp=>(T.aD _ _ (by omega)).trans (T.aD _ _ hp)⟩,fun hz j hj=>hz j (by have:h.nx+1≤j:=hj;omega)⟩
  have sA:=k.fu.fx FA (fun j hj hp=>by rw[hp]at hj;have:=k.cf.1;omega)
  obtain⟨v',h2,col',k2,s2,F2⟩:=appR_sr sA hus (i1:=h.nx) (x:=n) (by rw[hhA];exact T.bO _ _ _)
  have F12:Fx (fun j=>j=fid∨col j=4) h col h2 col':=⟨Nat.le_trans FA.nx F2.nx,fun j hj=>by
   obtain⟨a1,a2⟩:=FA.keep j hj
   obtain⟨b1,b2⟩:=F2.keep j (Nat.lt_of_lt_of_le hj FA.nx)
   exact⟨b1.trans a1,fun hp=>(b2 fun h4=>hp (.inr h4)).trans (a2 fun h4=>hp (.inl h4))⟩,fun hz=>F2.fz (FA.fz hz)⟩
  have g2c:h2.t.get c=some (.cells [.int .i64 ↑K.dep,.sl .no (K.C.map cN),.sl .no (strs K.S),.sl ws (rowsA K sid),.rs fid K.C.length true,.bool true,q.fv,q.tv,.int .i64 ↑q.f]):=
   ((F12.keep c hcl).2 (by rintro(h1|h1);exact ncf h1;have:=k.cc.1;omega)).trans hg
  have g2f:h2.t.get fid=some (.row K.C.length 3 1 (intI (q.fr.set n ↑(K.D n)))):=by
   have h1:hA.t.get fid=some (.row K.C.length 3 1 (intI (q.fr.set n ↑(K.D n)))):=by rw[hhA];exact(T.aD _ _ nf1).trans (T.bO _ _ _)
   exact((F2.keep fid (Nat.lt_of_lt_of_le hfl FA.nx)).2 (by have:=k.cf.1;omega)).trans h1
  have F3:Fx (fun j=>j=fid∨col j=4∨j=c) h col ⟨h2.t.set c (.cells [.int .i64 ↑K.dep,.sl .no (K.C.map cN),.sl .no (strs K.S),.sl ws (rowsA K sid),.rs fid K.C.length true,.bool true,v',q.tv,.int .i64 ↑q.f]),h2.nx⟩ col':=
   ⟨F12.nx,fun j hj=>⟨(F12.keep j hj).1,fun hp=>(T.aD _ _ fun e=>hp (.inr (.inr e))).trans ((F12.keep j hj).2 fun h1=>hp (h1.elim .inl fun h2 => .inr (.inl h2)))⟩,F12.fz⟩
  have ne6:∀ j,col j=5∨col j=6→¬ (j=fid∨col j=4∨j=c):=by
   rintro j hj (h1|h1|h1)
   ·rw[h1,k.cf.1]at hj;omega
   ·omega
   ·rw[h1,k.cc.1]at hj;omega
  refine⟨⟨h2.t.set c (.cells [.int .i64 ↑K.dep,.sl .no (K.C.map cN),.sl .no (strs K.S),.sl ws (rowsA K sid),.rs fid K.C.length true,.bool true,v',q.tv,.int .i64 ↑q.f]),h2.nx⟩,col',{ q with fv:=v',us:=q.us++[n],fr:=q.fr.set n ↑(K.D n) },?_,?_,F3.mut ?_,rfl,rfl,rfl,rfl,?_,[n],rfl⟩
  ·rw[bE E (e.no 57 (by simp)) (by rw[e.fn];kernel_rfl) body57 _ _ rfl]
   simp only[aC,sub,Tryz.f57]
   subst hhA
   have hv':=s2.shape
   clear s2 F3 F12 F2 g2f FA sA ne6
   rcases hv' with rfl|⟨id1,m1,rfl⟩|⟨id1,m1,m2,rfl⟩<;>simp[EVT,aT,bC,aX,bA,bT,aL,aN,aQ,bX,bF,aV,AV.cells,aG,aZ,val,aH,bN,bP,aU,aO,aM,bY,H.new,H.put,aY,bB,AV.one,setArgs,bQ,bS,bJ,aR,aP,bK,TYC,TYK,MTK,hty,hg,hfr,n0,n1,hn,hxg,hz,hset,hll,hn',ncf,k2,g2c]
  ·exact {
    g:=T.bO _ _ _
    frl:=by simp[k.frl]
    fr:=(T.aD _ _ (Ne.symm ncf)).trans g2f
    rl:=k.rl
    rows:=fun j hj=>((F3.keep (sid j) (k.cs j hj).2).2 (by
     rintro(h1|h1|h1)
     ·exact k.ne_fs hj h1.symm
     ·rw[(k.cs j hj).1]at h1;omega
     ·exact k.ne_cs hj h1.symm)).trans (k.rows j hj)
    fu:=s2.fx (P:=fun j=>j=c) ⟨Nat.le_refl _,fun j hj=>⟨rfl,fun hp=>T.aD _ _ hp⟩,fun hz=>hz⟩ (fun j hj h1=>by
     rw[h1,(F12.keep c hcl).1,k.cc.1]at hj
     omega)
    tdo:=k.tdo.fx F3 fun j hj=>ne6 j (.inl hj)
    vals:=fun a i v x ha hv hx=>(k.vals a i v x ha hv hx).fx F3 fun j hj=>ne6 j (.inr hj)
    cc:=⟨by rw[(F3.keep c hcl).1];exact k.cc.1,Nat.lt_of_lt_of_le hcl F3.nx⟩
    cf:=⟨by rw[(F3.keep fid hfl).1];exact k.cf.1,Nat.lt_of_lt_of_le hfl F3.nx⟩
    cs:=fun j hj=>⟨by rw[(F3.keep _ (k.cs j hj).2).1];exact(k.cs j hj).1,Nat.lt_of_lt_of_le (k.cs j hj).2 F3.nx⟩
    inj:=k.inj
    uss:=fun m hm=>by
     rcases List.mem_append.1 hm with hm|hm
     ·obtain⟨a1,a2⟩:=k.uss m hm
      refine⟨a1,?_⟩
      simp only[List.getElem?_set]
      split
      ·rename_i e1;subst e1;simp
      ·exact a2
     ·rw[List.mem_singleton.1 hm]
      exact⟨hn,by simp[lfr]⟩
    frs:=fun m hm=>by
     simp only[List.getElem?_set]
     split
     ·rename_i e1;subst e1;exact .inr (by simp)
     ·exact k.frs m hm
    tss:=k.tss
    ff:=k.ff
    fz:=F3.fz k.fz }
  ·rintro j (h1|h1|h1)
   ·rw[Mut,h1,k.cf.1];omega
   ·rw[Mut];omega
   ·rw[Mut,h1,k.cc.1];omega
  ·have:=un_set (y:=(↑(K.D n):Int)) hx (by rw[bU];simp)
   simp only[Wq,List.length_append,List.length_cons,List.length_nil]
   omega
 ·have hxa:(intI q.fr)[n]?=some (.int .i64 ↑(K.D n)):=by simp[intI,hx]
  have hz:aE ↑(K.D n) (-1)=false:=by rw[bU];simp
  have hz2:aE ↑(K.D n) ↑(K.D n)=true:=by rw[bU];simp
  have F3:Fx (fun j=>j=c) h col ⟨h.t.set c (.cells [.int .i64 ↑K.dep,.sl .no (K.C.map cN),.sl .no (strs K.S),.sl ws (rowsA K sid),.rs fid K.C.length true,.bool true,q.fv,q.tv,.int .i64 ↑q.f]),h.nx⟩ col:=
   ⟨Nat.le_refl _,fun j hj=>⟨rfl,fun hp=>T.aD _ _ hp⟩,fun hz=>hz⟩
  have nz:∀ j,col j=4∨col j=5∨col j=6→¬ j=c:=by
   rintro j hj rfl
   have:=k.cc.1
   omega
  refine⟨_,col,q,?_,?_,F3.mut ?_,rfl,rfl,rfl,rfl,rfl,[],by simp⟩
  ·rw[bE E (e.no 57 (by simp)) (by rw[e.fn];kernel_rfl) body57 _ _ rfl]
   simp only[aC,sub,Tryz.f57]
   simp[EVT,aT,bC,aX,bA,bT,aL,aN,aQ,bX,bF,aV,AV.cells,aG,aZ,val,aH,bN,bP,bG,aU,aO,H.new,H.put,aY,bB,AV.one,setArgs,bQ,bS,bJ,aR,aP,bK,TYC,TYK,MTK,hty,hg,hfr,n0,n1,hn,hxa,hz,hz2]
  ·exact {
    g:=T.bO _ _ _
    frl:=k.frl
    fr:=(T.aD _ _ (Ne.symm ncf)).trans hfr
    rl:=k.rl
    rows:=fun j hj=>(T.aD _ _ (Ne.symm (k.ne_cs hj))).trans (k.rows j hj)
    fu:=k.fu.fx F3 fun j hj=>nz j (.inl hj)
    tdo:=k.tdo.fx F3 fun j hj=>nz j (.inr (.inl hj))
    vals:=fun a i v x ha hv hx=>(k.vals a i v x ha hv hx).fx F3 fun j hj=>nz j (.inr (.inr hj))
    cc:=k.cc
    cf:=k.cf
    cs:=k.cs
    inj:=k.inj
    uss:=k.uss
    frs:=k.frs
    tss:=k.tss
    ff:=k.ff
    fz:=k.fz }
  ·rintro j rfl
   rw[Mut,k.cc.1];omega
end
end Go.Proofs.YtogjplcnmibnlaaGreatDoor.Ck
