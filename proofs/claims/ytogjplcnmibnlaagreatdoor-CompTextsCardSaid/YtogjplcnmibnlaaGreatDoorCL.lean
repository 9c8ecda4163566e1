/- slices.Concat of two; under. -/
import Derived.Test.YtogjplcnmibnlaaGreatDoorCH
set_option autoImplicit false
set_option maxRecDepth 100000
set_option maxHeartbeats 2000000
set_option linter.unusedSimpArgs false
set_option linter.unusedVariables false
namespace Go.Proofs.YtogjplcnmibnlaaGreatDoor.Env
open Go.Ev Go.Ev.Nd
attribute [local simp] bC aX bA bT aL aN aQ bX bF bW dE cD aV AV.cells aG aZ val aH bN bP cP bG eI aU aO aM bY bI recheck H.new H.put cT aY bB AV.one setArgs bQ bS bJ aR aP bK
theorem l02:ltI 0 2=true:=rfl
theorem l12:ltI 1 2=true:=rfl
theorem l22:ltI 2 2=false:=rfl
theorem v1:wr .i64 1=1:=rfl
theorem v2:wr .i64 2=2:=rfl
noncomputable def b114_0:Code:=aK Tryz.f114 0
noncomputable def b114_1:Code:=aK Tryz.f114 1
theorem body114:Tryz.f114.body=some (.seq (aC Tryz.f114 [0]) (.seq (aC Tryz.f114 [1,0]) (.seq (.seq (aC Tryz.f114 [1,1,0,0]) (.block 0 (.loop b114_0))) (.seq (aC Tryz.f114 [1,1,1,0]) (.seq (.seq (aC Tryz.f114 [1,1,1,1,0,0]) (.block 2 (.loop b114_1))) (aC Tryz.f114 [1,1,1,1,1])))))):=rfl
theorem loop114_0 {E:Env} (hty:E.ty=env.ty) (hpl:E.plan=env.plan) {oa ob:Go.Ev.Own} {a b:List Str} (hl:a.length+b.length≤1000000) {tm:Tm} {h:H} {x:Option (Ex × Tm × H)} (hx:cdL E 114 36 (.loop b114_0) tm h=x)
  (g9:tm.get 9=some (.sl .full [.sl oa (strs a),.sl ob (strs b)])) (g0:tm.get 0=some (.sl .full [.sl oa (strs a),.sl ob (strs b)])) (g10:tm.get 10=some (.int .i64 2)) (g11:tm.get 11=some (.int .i64 0)) (g3:tm.get 3=some (.int .i64 0)) :
  ∃ tm',x=some (.exit 0,tm',h)∧tm'.get 0=some (.sl .full [.sl oa (strs a),.sl ob (strs b)])∧tm'.get 3=some (.int .i64 (↑a.length+↑b.length)):=by
 have ha:=cA a
 have hb:=cA b
 have w1:wr .i64 (↑a.length)=(↑a.length:Int):=by rw[wr_eq];exact eX (by omega) (by omega)
 have w2:wr .i64 ((↑a.length:Int)+↑b.length)=↑a.length+↑b.length:=by rw[wr_eq,eX (by omega) (by omega)]
 have n1:ltI (↑a.length) 0=false:=by rw[dI];simp
 have n2:ltI ((↑a.length:Int)+↑b.length) 0=false:=by rw[dI];simp;omega
 obtain⟨R,hR,hx⟩:=aS hx
 simp[b114_0,aK,Tryz.f114,loops,EVT,TYC,lp,hty,g3,g9,g10,g11,ha,w1,n1,l02,v1]at hx
 rw[hR]at hx
 obtain⟨R2,hR2,hx⟩:=aS hx
 simp[b114_0,aK,Tryz.f114,loops,EVT,TYC,lp,hty,g9,g10,hb,w2,n2,l12,v2]at hx
 rw[hR2]at hx
 obtain⟨R3,hR3,hx⟩:=aS hx
 simp[b114_0,aK,Tryz.f114,loops,EVT,lp,hty,g10,l22]at hx
 exact⟨_,hx.symm,by simp[T.aA,g0],by simp[T.aA]⟩
theorem loop114_1 {E:Env} (hty:E.ty=env.ty) (hpl:E.plan=env.plan) {oa ob:Go.Ev.Own} {a b:List Str} (hl:a.length+b.length≤1000000) {tm:Tm} {h:H} {w:Go.Ev.Own} (hr:RowE 9 1 h w []) {x:Option (Ex × Tm × H)} (hx:cdL E 114 36 (.loop b114_1) tm h=x)
  (g25:tm.get 25=some (.sl .full [.sl oa (strs a),.sl ob (strs b)])) (g26:tm.get 26=some (.int .i64 2)) (g27:tm.get 27=some (.int .i64 0)) (g6:tm.get 6=some (.sl w [])) :
  ∃ tm' h' w',x=some (.exit 2,tm',h')∧tm'.get 6=some (.sl w' (strs (a++b)))∧RowE 9 1 h' w' (strs (a++b))∧h.nx≤h'.nx∧(∀ j,j<h.nx→w ≠ .ch j→h'.t.get j=h.t.get j)∧∀ j,w' = .ch j→w = .ch j∨h.nx≤j:=by
 have ha:=cA a
 have hb:=cA b
 have one:∀ l:List Str,bY (strs l)=true:=by
  intro l
  induction l with
  | nil=>rfl
  | cons t l ih=>simpa[strs]using ih
 obtain⟨w1,h1,k1,r1,n1,f1⟩:=app_any (e:=9) (sz:=1) (byt:=16) (ys:=strs a) (by omega) (by omega) rfl (strs_sz a) (one a) (by rw[ha];simp;omega) hr
 obtain⟨w2,h2,k2,r2,n2,f2⟩:=app_any (e:=9) (sz:=1) (byt:=16) (ys:=strs b) (by omega) (by omega) (strs_sz a) (strs_sz b) (one b) (by rw[ha,hb];omega) (by simpa using r1)
 have o1:=own_app hr k1
 have o2:=own_app (by simpa using r1) k2
 simp only[List.nil_append]at k1 r1
 obtain⟨R,hR,hx⟩:=aS hx
 simp[b114_1,aK,Tryz.f114,loops,EVT,TYC,lp,hty,g6,g25,g26,g27,l02,v1,k1,-bG]at hx
 rw[hR]at hx
 obtain⟨R2,hR2,hx⟩:=aS hx
 simp[b114_1,aK,Tryz.f114,loops,EVT,TYC,lp,hty,g25,g26,l12,v2,k2,-bG]at hx
 rw[hR2]at hx
 obtain⟨R3,hR3,hx⟩:=aS hx
 simp[b114_1,aK,Tryz.f114,loops,EVT,lp,hty,g26,l22]at hx
 refine⟨_,h2,w2,hx.symm,by simp[T.aA,strs_app],by rw[strs_app];exact r2,Nat.le_trans n1 n2,fun j hj hw => ?_,fun j hj => ?_⟩
 ·rw[f2 j (Nat.lt_of_lt_of_le hj n1) (fun e=>by
   rcases o1 j e with e|e
   ·exact hw e
   ·omega),f1 j hj hw]
 ·rcases o2 j hj with e|e
  ·exact o1 j e
  ·exact .inr (Nat.le_trans n1 e)
theorem concat_run {E:Env} (hty:E.ty=env.ty) (hpl:E.plan=env.plan) (hp:E.prim 114=none) (hg:E.prim 127=some (primGrow 9 1 16)) (hfn:E.fns=env.fns) {oa ob:Go.Ev.Own} {a b:List Str} (hl:a.length+b.length≤1000000) (h:H) :
  ∃ h' w',evL E 114 [.sl .full [.sl oa (strs a),.sl ob (strs b)]] h=some (.sl w' (strs (a++b)),h')∧h.nx≤h'.nx∧∀ j,j<h.nx→h'.t.get j=h.t.get j:=by
 rw[bE E hp (by rw[hfn];kernel_rfl) body114 _ _ rfl]
 simp only[aC,sub,Tryz.f114]
 simp[EVT,aT,TYC,hty]
 generalize hx:cdL E 114 36 (.loop b114_0) _ _=x
 obtain⟨tm1,rfl,q0,q3⟩:=loop114_0 hty hpl (oa:=oa) (ob:=ob) hl hx (by simp[T.aA]) (by simp[T.aA]) (by simp[T.aA]) (by simp[T.aA]) (by simp[T.aA])
 have hgr:∃ h1 w1,evL E 127 [.sl .full [],.int .i64 (↑a.length+↑b.length)] h=some (.sl w1 [],h1)∧RowE 9 1 h1 w1 []∧h.nx≤h1.nx∧(∀ j,j<h.nx→h1.t.get j=h.t.get j)∧∀ j,w1 = .ch j→h.nx≤j:=by
  have hc:((↑a.length:Int)+↑b.length)=Int.ofNat (a.length+b.length):=rfl
  rw[evL_prim E hg]
  unfold primGrow
  rw[hc]
  simp only
  cases hz:Nat.beq (a.length+b.length) 0 with
  | true=>exact⟨h,.full,rfl,.inl ⟨rfl,rfl⟩,Nat.le_refl _,fun _ _=>rfl,fun j e=>by cases e⟩
  | false=>
   have:Nat.ble ((a.length+b.length)*16) 140737488355328=true:=by rw[Nat.ble_eq];omega
   simp only[cond_false,this,cond_true]
   exact⟨_,_,rfl,.inr ⟨h.nx,rfl,T.bO _ _ _,Nat.lt_succ_self _⟩,Nat.le_succ _,fun j hj=>T.aD _ _ (by omega),fun j e=>by injection e with e;omega⟩
 obtain⟨h1,w1,k1,r1,n1,f1,o1⟩:=hgr
 simp[EVT,TYC,q0,q3,k1]
 generalize hx2:cdL E 114 36 (.loop b114_1) _ _=x2
 obtain⟨tm2,h2,w2,rfl,q6,r2,n2,f2,o2⟩:=loop114_1 hty hpl (oa:=oa) (ob:=ob) hl r1 hx2 (by simp[T.aA]) (by simp[T.aA]) (by simp[T.aA]) (by simp[T.aA])
 refine⟨h2,⟨w2,by simp[EVT,q6]⟩,Nat.le_trans n1 n2,fun j hj => ?_⟩
 rw[f2 j (Nat.lt_of_lt_of_le hj n1) (fun e=>by have:=o1 j e;omega),f1 j hj]
theorem body70:Tryz.f70.body=some (aC Tryz.f70 []):=rfl
theorem under_run {E:Env} (hty:E.ty=env.ty) (hpl:E.plan=env.plan) (hp:E.prim 70=none) (hp2:E.prim 114=none) (hg:E.prim 127=some (primGrow 9 1 16)) (hfn:E.fns=env.fns) {oa ob:Go.Ev.Own} {a b:List Str} (hl:a.length+b.length≤1000000) (h:H) :
  ∃ h' w',evL E 70 [.sl ob (strs b),.sl oa (strs a)] h=some (.sl w' (strs (a++b)),h')∧h.nx≤h'.nx∧∀ j,j<h.nx→h'.t.get j=h.t.get j:=by
 obtain⟨h',w',k,n,f⟩:=concat_run (E:=E) hty hpl hp2 hg hfn (oa:=oa) (ob:=ob) hl h
 refine⟨h',w',?_,n,f⟩
 rw[bE E hp (by rw[hfn];kernel_rfl) body70 _ _ rfl]
 simp only[aC,sub,Tryz.f70]
 simp[EVT,aT,TYC,hty,k]
end Go.Proofs.YtogjplcnmibnlaaGreatDoor.Env
namespace Go.Proofs.YtogjplcnmibnlaaGreatDoor.Env
open Go.Ev Go.Ev.Nd
def FunsR (h:H) (fv:AV) (F:List AV):Prop:=(fv = .sl .full []∧F=[])∨∃ id,fv = .rs id F.length true∧h.t.get id=some (.row F.length 54 1 F)∧id<h.nx
structure MS (h:H) (m:Nat) (dep:Int) (fv:AV) (F:List AV) (w:Go.Ev.Own) (S:List Str):Prop where
 gm:h.t.get m=some (.cells [.int .i64 dep,fv,.sl w (strs S)])
 mx:m<h.nx
 fr:FunsR h fv F
 sr:RowE 9 1 h w (strs S)
structure FS (h:H) (m f:Nat) (v:AV) (l:List Ins):Prop where
 gf:h.t.get f=some (.cells [.ptr (some (m,0)),v])
 fx:f<h.nx
 cr:fI h v l
theorem fI.one {h:H} {v:AV} {l:List Ins} (c:fI h v l):v.one=true:=by rcases c with ⟨rfl,_⟩|⟨id,rfl,_⟩<;>rfl
theorem FunsR.one {h:H} {v:AV} {l:List AV} (c:FunsR h v l):v.one=true:=by rcases c with ⟨rfl,_⟩|⟨id,rfl,_⟩<;>rfl
def Tch (m f:Nat) (fv:AV) (w:Go.Ev.Own) (v:AV) (j:Nat):Prop:=j=m∨j=f∨cB fv=some j∨w = .ch j∨cB v=some j
structure Stp (m f:Nat) (h:H) (fv:AV) (w:Go.Ev.Own) (v:AV) (h':H) (fv':AV) (w':Go.Ev.Own) (v':AV):Prop where
 nx:h.nx≤h'.nx
 keep:∀ j,j<h.nx→¬ Tch m f fv w v j→h'.t.get j=h.t.get j
 new:∀ j,Tch m f fv' w' v' j→Tch m f fv w v j∨h.nx≤j
 vid:∀ j,cB v'=some j→cB v=some j∨h.nx≤j
theorem Stp.refl (m f:Nat) (h:H) (fv:AV) (w:Go.Ev.Own) (v:AV):Stp m f h fv w v h fv w v:=⟨Nat.le_refl _,fun _ _ _=>rfl,fun _ h => .inl h,fun _ h => .inl h⟩
theorem Stp.trans {m f:Nat} {h h1 h2:H} {fv fv1 fv2 v v1 v2:AV} {w w1 w2:Go.Ev.Own} (a:Stp m f h fv w v h1 fv1 w1 v1) (b:Stp m f h1 fv1 w1 v1 h2 fv2 w2 v2):Stp m f h fv w v h2 fv2 w2 v2 where
 nx:=Nat.le_trans a.nx b.nx
 keep:=fun j hj ht=>by
  rw[b.keep j (Nat.lt_of_lt_of_le hj a.nx) (fun h=>(a.new j h).elim ht (by omega)),a.keep j hj ht]
 new:=fun j h=>by
  rcases b.new j h with h|h
  ·exact a.new j h
  ·exact .inr (Nat.le_trans a.nx h)
 vid:=fun j h=>by
  rcases b.vid j h with h|h
  ·exact a.vid j h
  ·exact .inr (Nat.le_trans a.nx h)
section
variable {h:H} {m f:Nat} {dep:Int} {fv v:AV} {F:List AV} {w:Go.Ev.Own} {S:List Str} {l:List Ins}
theorem MS.ne (M:MS h m dep fv F w S) (X:FS h m f v l):m≠f:=by
 rintro rfl
 have:=M.gm.symm.trans X.gf
 simp at this
theorem FunsR.nc {j:Nat} {cs:List AV} (c:FunsR h fv F) (hj:h.t.get j=some (.cells cs)):cB fv≠some j:=by
 rcases c with ⟨rfl,_⟩|⟨id,rfl,hg,_⟩
 ·simp[cB]
 ·simp only[cB,ne_eq,Option.some.injEq]
  rintro rfl
  rw[hg]at hj;cases hj
theorem fI.nc {j:Nat} {cs:List AV} (c:fI h v l) (hj:h.t.get j=some (.cells cs)):cB v≠some j:=by
 rcases c with ⟨rfl,_⟩|⟨id,rfl,hg,_⟩
 ·simp[cB]
 ·simp only[cB,ne_eq,Option.some.injEq]
  rintro rfl
  rw[hg]at hj;cases hj
theorem fun_code {j:Nat} (a:FunsR h fv F) (b:fI h v l) (h1:cB fv=some j):cB v≠some j:=by
 rcases a with ⟨rfl,_⟩|⟨id,rfl,hg,_⟩
 ·simp[cB]at h1
 ·rcases b with ⟨rfl,_⟩|⟨id',rfl,hg',_⟩
  ·simp[cB]
  ·simp only[cB,Option.some.injEq,ne_eq]at h1 ⊢
   subst h1
   rintro rfl
   rw[hg]at hg'
   simp at hg'
theorem str_code {j:Nat} (a:RowE 9 1 h w (strs S)) (b:fI h v l) (h1:w = .ch j):cB v≠some j:=by
 rcases a with ⟨rfl,_⟩|⟨id,rfl,hg,_⟩
 ·cases h1
 ·injection h1 with h1
  subst h1
  rcases b with ⟨rfl,_⟩|⟨id',rfl,hg',_⟩
  ·simp[cB]
  ·simp only[cB,ne_eq,Option.some.injEq]
   rintro rfl
   rw[hg]at hg';cases hg'
theorem str_fun {j:Nat} (a:RowE 9 1 h w (strs S)) (b:FunsR h fv F) (h1:w = .ch j):cB fv≠some j:=by
 rcases a with ⟨rfl,_⟩|⟨id,rfl,hg,_⟩
 ·cases h1
 ·injection h1 with h1
  subst h1
  rcases b with ⟨rfl,_⟩|⟨id',rfl,hg',_⟩
  ·simp[cB]
  ·simp only[cB,ne_eq,Option.some.injEq]
   rintro rfl
   rw[hg]at hg';cases hg'
theorem MS.mono (M:MS h m dep fv F w S) {h':H} (hn:h.nx≤h'.nx) (hg:∀ j,j<h.nx→(j=m∨cB fv=some j∨w = .ch j)→h'.t.get j=h.t.get j):MS h' m dep fv F w S where
 gm:=by rw[hg m M.mx (.inl rfl)];exact M.gm
 mx:=Nat.lt_of_lt_of_le M.mx hn
 fr:=by
  rcases M.fr with e|⟨id,e,hi,hid⟩
  ·exact .inl e
  ·exact .inr ⟨id,e,by rw[hg id hid (.inr (.inl (by rw[e];rfl)))];exact hi,Nat.lt_of_lt_of_le hid hn⟩
 sr:=by
  rcases M.sr with e|⟨id,e,hi,hid⟩
  ·exact .inl e
  ·exact .inr ⟨id,e,by rw[hg id hid (.inr (.inr e))];exact hi,Nat.lt_of_lt_of_le hid hn⟩
theorem FS.mono (X:FS h m f v l) {h':H} (hn:h.nx≤h'.nx) (hg:∀ j,j<h.nx→(j=f∨cB v=some j)→h'.t.get j=h.t.get j):FS h' m f v l where
 gf:=by rw[hg f X.fx (.inl rfl)];exact X.gf
 fx:=Nat.lt_of_lt_of_le X.fx hn
 cr:=X.cr.mono hn fun j hj hl=>hg j hl (.inr hj)
theorem puts_step {E:Env} (hty:E.ty=env.ty) (hpl:E.plan=env.plan) (h43:E.prim 43=none) (hfn:E.fns=env.fns) (M:MS h m dep fv F w S) (X:FS h m f v l) (hl:l.length≤1000000) (op n:Int) :
  ∃ h' id,evL E 43 [.ptr (some (f,0)),.int .i64 op,.int .i64 n] h=some (.int .i64 ↑l.length,h')∧MS h' m dep fv F w S∧FS h' m f (.rs id (l.length+1) true) (l++[⟨op,n⟩])∧Stp m f h fv w v h' fv w (.rs id (l.length+1) true):=by
 obtain⟨h',v',k1,k2,k3,k4,id,rfl,k5⟩:=puts_run hty hpl h43 hfn X.gf X.fx X.cr hl (X.cr.nc X.gf) rfl op n
 have hnf:∀ j,j<h.nx→j≠f→cB v≠some j→h'.t.get j=h.t.get j:=fun j hj h1 h2=>k4.2 j hj (by
  cases hr:cB v with
  | none=>simpa using h1
  | some i=>rw[hr]at h2;simp only[Option.toList,List.mem_cons,List.not_mem_nil,or_false,not_or];exact⟨h1,fun e=>h2 (by rw[e])⟩)
 refine⟨h',id,k1,M.mono k4.1 fun j hj ht => ?_,⟨k2,Nat.lt_of_lt_of_le X.fx k4.1,k3⟩,⟨k4.1,fun j hj ht => ?_,fun j ht => ?_,fun j e => ?_⟩⟩
 ·rcases ht with rfl|ht|ht
  ·exact hnf j hj (M.ne X) (X.cr.nc M.gm)
  ·exact hnf j hj (by rintro rfl;exact M.fr.nc X.gf ht) (fun_code M.fr X.cr ht)
  ·exact hnf j hj (by rintro rfl;exact M.sr.ne X.gf ht) (str_code M.sr X.cr ht)
 ·unfold Tch at ht
  simp only[not_or]at ht
  exact hnf j hj ht.2.1 ht.2.2.2.2
 ·rcases ht with h1|h1|h1|h1|h1
  ·exact .inl (.inl h1)
  ·exact .inl (.inr (.inl h1))
  ·exact .inl (.inr (.inr (.inl h1)))
  ·exact .inl (.inr (.inr (.inr (.inl h1))))
  ·simp only[cB,Option.some.injEq]at h1
   subst h1
   exact k5.imp (fun e => .inr (.inr (.inr (.inr e)))) fun e=>e
 ·simp only[cB,Option.some.injEq]at e
  subst e
  exact k5
end
end Go.Proofs.YtogjplcnmibnlaaGreatDoor.Env
namespace Go.Proofs.YtogjplcnmibnlaaGreatDoor.Env
open Go.Ev Go.Ev.Nd
attribute [local simp] bC aX bA bT aL aN aQ bX bF bW dE cD aV AV.cells aG aZ val aH bN bP cP bG eI aU aO aM bY bI recheck H.new H.put cT aY bB AV.one setArgs bQ bS bJ aR aP bK
section
variable {h:H} {m f:Nat} {dep:Int} {fv v:AV} {F:List AV} {w:Go.Ev.Own} {S:List Str} {l:List Ins}
theorem Grow_stp {h':H} (hn:h.nx≤h'.nx) (hg:∀ j,j<h.nx→h'.t.get j=h.t.get j):Stp m f h fv w v h' fv w v:=⟨hn,fun j hj _=>hg j hj,fun _ h => .inl h,fun _ h => .inl h⟩
theorem MS.grow (M:MS h m dep fv F w S) {h':H} (hn:h.nx≤h'.nx) (hg:∀ j,j<h.nx→h'.t.get j=h.t.get j):MS h' m dep fv F w S:=M.mono hn fun j hj _=>hg j hj
theorem FS.grow (X:FS h m f v l) {h':H} (hn:h.nx≤h'.nx) (hg:∀ j,j<h.nx→h'.t.get j=h.t.get j):FS h' m f v l:=X.mono hn fun j hj _=>hg j hj
theorem here_step {E:Env} (hty:E.ty=env.ty) (hpl:E.plan=env.plan) (hp:E.prim 115=none) (hfn:E.fns=env.fns) {id:Nat} (M:MS h m dep fv F w S) (X:FS h m f (.rs id l.length true) l) (hl:l.length≤1000000) {p:Nat} (hpl':p<l.length) :
  ∃ h',evL E 115 [.ptr (some (f,0)),.int .i64 ↑p] h=some (.tup [],h')∧MS h' m dep fv F w S∧FS h' m f (.rs id l.length true) (hereF l p)∧Stp m f h fv w (.rs id l.length true) h' fv w (.rs id l.length true):=by
 have hc:h.t.get id=some (.row l.length 62 2 (insC l))∧id<h.nx:=by
  rcases X.cr with ⟨e,_⟩|⟨id',e,h1,h2⟩
  ·cases e
  ·injection e with e1
   subst e1
   exact⟨h1,h2⟩
 refine⟨_,here_run hty hpl hp hfn X.gf hc.1 hl hpl',M.mono (Nat.le_refl _) fun j hj ht=>T.aD _ _ ?_,⟨?_,X.fx,.inr ⟨id,by rw[hereF_len],by rw[hereF_len];exact T.bO _ _ _,hc.2⟩⟩,Nat.le_refl _,fun j hj ht=>T.aD _ _ ?_,fun j h => .inl h,fun j h => .inl h⟩
 ·rintro rfl
  rcases ht with ht|ht|ht
  ·exact X.cr.nc M.gm (by rw[←ht];rfl)
  ·exact fun_code M.fr X.cr ht rfl
  ·exact str_code M.sr X.cr ht rfl
 ·have:f≠id:=by rintro rfl;exact X.cr.nc X.gf rfl
  rw[show(⟨h.t.set id (.row l.length 62 2 (insC (hereF l p))),h.nx⟩:H).t.get f=h.t.get f from T.aD _ _ this]
  exact X.gf
 ·rintro rfl
  exact ht (.inr (.inr (.inr (.inr rfl))))
theorem str_step {E:Env} (hty:E.ty=env.ty) (hpl:E.plan=env.plan) (hp:E.prim 113=none) (hp34:E.prim 34=none) (hfn:E.fns=env.fns) (M:MS h m dep fv F w S) (X:FS h m f v l) (hl:S.length≤1000000) (s:List Nat) :
  ∃ h' w',evL E 113 [.ptr (some (m,0)),.str s] h=some (.int .i64 (strI S s),h')∧MS h' m dep fv F w' (strF S s)∧FS h' m f v l∧Stp m f h fv w v h' fv w' v:=by
 obtain⟨h',w',k1,k2,k3,k4,k5,k6⟩:=str_run hty hpl hp hp34 hfn M.gm M.mx M.sr hl rfl M.fr.one s
 have M':MS h' m dep fv F w' (strF S s):=⟨k2,Nat.lt_of_lt_of_le M.mx k4,by
  rcases M.fr with e|⟨id,e,hi,hid⟩
  ·exact .inl e
  ·refine .inr ⟨id,e,?_,Nat.lt_of_lt_of_le hid k4⟩
   rw[k5 id hid (by rintro rfl;exact M.fr.nc M.gm (by rw[e];rfl)) fun e2=>str_fun M.sr M.fr e2 (by rw[e];rfl)]
   exact hi,k3⟩
 refine⟨h',w',k1,M',X.mono k4 fun j hj ht=>k5 j hj ?_ fun e => ?_,k4,fun j hj ht=>k5 j hj (fun e=>ht (.inl e)) fun e=>ht (.inr (.inr (.inr (.inl e)))),fun j ht => ?_,fun j h => .inl h⟩
 ·rcases ht with rfl|ht
  ·exact(M.ne X).symm
  ·rintro rfl;exact X.cr.nc M.gm ht
 ·rcases ht with rfl|ht
  ·exact M.sr.ne X.gf e
  ·exact str_code M.sr X.cr e ht
 ·rcases ht with h1|h1|h1|h1|h1
  ·exact .inl (.inl h1)
  ·exact .inl (.inr (.inl h1))
  ·exact .inl (.inr (.inr (.inl h1)))
  ·exact(k6 j h1).imp (fun e => .inr (.inr (.inr (.inl e)))) fun e=>e
  ·exact .inl (.inr (.inr (.inr (.inr h1))))
end
def oInt:List Nat:=[105,110,116]
def oBool:List Nat:=[98,111,111,108]
def oUnit:List Nat:=[117,110,105,116]
def oNil:List Nat:=[110,105,108]
def oStr:List Nat:=[115,116,114]
def oVar:List Nat:=[118,97,114]
def dL (o p:List Nat) (n:Int) (env S:List Str):Option (List Str × Ins):=
 bif aB o oInt||aB o oBool then some (S,⟨1,n⟩)else bif aB o oUnit||aB o oNil then some (S,⟨1,0⟩)else
 bif aB o oStr then some (strF S p,⟨2,strI S p⟩)else bif aB o oVar then some (S,⟨3,idxS p env 0⟩)else none
theorem body69:Tryz.f69.body=some (aC Tryz.f69 []):=rfl
theorem leaf_run {E:Env} (hty:E.ty=env.ty) (hpl:E.plan=env.plan) (hp69:E.prim 69=none) (hp43:E.prim 43=none) (hp113:E.prim 113=none) (hp34:E.prim 34=none) (hfn:E.fns=env.fns) {h:H} {m f:Nat} {dep:Int} {fv v:AV} {F:List AV} {w:Go.Ev.Own} {S:List Str} {l:List Ins}
  (M:MS h m dep fv F w S) (X:FS h m f v l) (hl:l.length≤1000000) (hS:S.length≤1000000) {en:List Str} (hen:en.length≤1000000) (oe:Go.Ev.Own) (t:Nd) :
  ∃ h' w' v',evL E 69 [.ptr (some (f,0)),t.av,.sl oe (strs en)] h=some (.bool (dL t.op t.name t.n en S).isSome,h') ∧
   MS h' m dep fv F w' (match dL t.op t.name t.n en S with|some (S',_)=>S'|none=>S)∧FS h' m f v' (match dL t.op t.name t.n en S with|some (_,i)=>l++[i]|none=>l)∧Stp m f h fv w v h' fv w' v':=by
 have gn:∀ j,j<h.nx→(⟨h.t.set h.nx (.cells [.str t.op,.str t.name,.str t.arg,.int .i64 t.n,.int .i64 t.at_,.sl .no (avs t.kids)]),h.nx+1⟩:H).t.get j=h.t.get j:=fun j hj=>T.aD _ _ (by omega)
 have M1:=M.grow (Nat.le_succ _) gn
 have X1:=X.grow (Nat.le_succ _) gn
 have T1:=Grow_stp (m:=m) (f:=f) (fv:=fv) (w:=w) (v:=v) (Nat.le_succ h.nx) gn
 have hgf:=X1.gf
 have k34:=fun h=>index_run (E:=E) hty hpl hp34 (by rw[hfn];kernel_rfl) oe en t.name (by omega) h
 rw[bE E hp69 (by rw[hfn];kernel_rfl) body69 _ _ rfl]
 simp only[aC,sub,Tryz.f69]
 rw[bZ t]
 cases c1:aB t.op oInt with
 | true=>
  obtain⟨h',id,k1,k2,k3,k4⟩:=puts_step hty hpl hp43 hfn M1 X1 hl 1 t.n
  have e:dL t.op t.name t.n en S=some (S,⟨1,t.n⟩):=by simp[dL,c1]
  rw[e]
  refine⟨h',w,_,?_,k2,k3,T1.trans k4⟩
  simp only[oInt]at c1
  simp[EVT,aT,TYC,hty,hpl,bytesOf,c1,k1]
 | false=>
 cases c2:aB t.op oBool with
 | true=>
  obtain⟨h',id,k1,k2,k3,k4⟩:=puts_step hty hpl hp43 hfn M1 X1 hl 1 t.n
  have e:dL t.op t.name t.n en S=some (S,⟨1,t.n⟩):=by simp[dL,c2]
  rw[e]
  refine⟨h',w,_,?_,k2,k3,T1.trans k4⟩
  simp only[oInt,oBool]at c1 c2
  simp[EVT,aT,TYC,hty,hpl,bytesOf,c1,c2,k1]
 | false=>
 cases c3:aB t.op oUnit with
 | true=>
  obtain⟨h',id,k1,k2,k3,k4⟩:=puts_step hty hpl hp43 hfn M1 X1 hl 1 0
  have e:dL t.op t.name t.n en S=some (S,⟨1,0⟩):=by simp[dL,c1,c2,c3]
  rw[e]
  refine⟨h',w,_,?_,k2,k3,T1.trans k4⟩
  simp only[oInt,oBool,oUnit]at c1 c2 c3
  simp[EVT,aT,TYC,hty,hpl,bytesOf,c1,c2,c3,k1]
 | false=>
 cases c4:aB t.op oNil with
 | true=>
  obtain⟨h',id,k1,k2,k3,k4⟩:=puts_step hty hpl hp43 hfn M1 X1 hl 1 0
  have e:dL t.op t.name t.n en S=some (S,⟨1,0⟩):=by simp[dL,c1,c2,c4]
  rw[e]
  refine⟨h',w,_,?_,k2,k3,T1.trans k4⟩
  simp only[oInt,oBool,oUnit,oNil]at c1 c2 c3 c4
  simp[EVT,aT,TYC,hty,hpl,bytesOf,c1,c2,c3,c4,k1]
 | false=>
 cases c5:aB t.op oStr with
 | true=>
  obtain⟨h1,w1,j1,j2,j3,j4⟩:=str_step hty hpl hp113 hp34 hfn M1 X1 hS t.name
  obtain⟨h',id,k1,k2,k3,k4⟩:=puts_step hty hpl hp43 hfn j2 j3 hl 2 (strI S t.name)
  have e:dL t.op t.name t.n en S=some (strF S t.name,⟨2,strI S t.name⟩):=by simp[dL,c1,c2,c3,c4,c5]
  rw[e]
  refine⟨h',w1,_,?_,k2,k3,T1.trans (j4.trans k4)⟩
  simp only[oInt,oBool,oUnit,oNil,oStr]at c1 c2 c3 c4 c5
  have nf:f≠h.nx:=by have:=X.fx;omega
  simp[EVT,aT,TYC,hty,hpl,bytesOf,c1,c2,c3,c4,c5,X.gf,nf,j1,k1]
 | false=>
 cases c6:aB t.op oVar with
 | true=>
  obtain⟨h',id,k1,k2,k3,k4⟩:=puts_step hty hpl hp43 hfn M1 X1 hl 3 (idxS t.name en 0)
  have e:dL t.op t.name t.n en S=some (S,⟨3,idxS t.name en 0⟩):=by simp[dL,c1,c2,c3,c4,c5,c6]
  rw[e]
  refine⟨h',w,_,?_,k2,k3,T1.trans k4⟩
  simp only[oInt,oBool,oUnit,oNil,oStr,oVar]at c1 c2 c3 c4 c5 c6
  simp[EVT,aT,TYC,hty,hpl,bytesOf,c1,c2,c3,c4,c5,c6,k34,k1]
 | false=>
  have e:dL t.op t.name t.n en S=none:=by simp[dL,c1,c2,c3,c4,c5,c6]
  rw[e]
  refine⟨_,w,v,?_,M1,X1,T1⟩
  simp only[oInt,oBool,oUnit,oNil,oStr,oVar]at c1 c2 c3 c4 c5 c6
  simp[EVT,aT,TYC,hty,hpl,bytesOf,c1,c2,c3,c4,c5,c6]
end Go.Proofs.YtogjplcnmibnlaaGreatDoor.Env
namespace Go.Proofs.YtogjplcnmibnlaaGreatDoor.Env
open Go.Ev Go.Ev.Nd
def FnsR (h:H) (n0:Nat) (T:Nat→Prop) (N':List AV) (N:List (List Ins)):Prop:=N'.length=N.length∧∀ (i:Nat) x c,N'[i]?=some x→N[i]?=some c→fI h x c∧∀ id,cB x=some id→n0≤id∧¬ T id
theorem FnsR.nil (h:H) (n0:Nat) (T:Nat→Prop):FnsR h n0 T [] []:=⟨rfl,fun i x c hx=>by simp at hx⟩
theorem fI.lt {h:H} {v:AV} {l:List Ins} (c:fI h v l) {id:Nat} (hi:cB v=some id):id<h.nx:=by
 rcases c with ⟨rfl,_⟩|⟨id',rfl,_,h2⟩
 ·simp[cB]at hi
 ·simp only[cB,Option.some.injEq]at hi;omega
theorem FnsR.mono {h h':H} {n0:Nat} {T T':Nat→Prop} {N':List AV} {N:List (List Ins)} (r:FnsR h n0 T N' N) (hn:h.nx≤h'.nx) (hg:∀ j,j<h.nx→¬ T j→h'.t.get j=h.t.get j) (hT:∀ j,T' j→T j∨h.nx≤j):FnsR h' n0 T' N' N:=
 ⟨r.1,fun i x c hx hc=>by
  obtain⟨h1,h2⟩:=r.2 i x c hx hc
  refine⟨h1.mono hn fun j hj hl=>hg j hl (h2 j hj).2,fun id hid=>⟨(h2 id hid).1,fun ht => ?_⟩⟩
  have:=h1.lt hid
  rcases hT id ht with e|e
  ·exact(h2 id hid).2 e
  ·omega⟩
theorem FnsR.low {h:H} {n0 n1:Nat} {T:Nat→Prop} {N':List AV} {N:List (List Ins)} (r:FnsR h n0 T N' N) (hn:n1≤n0):FnsR h n1 T N' N:=
 ⟨r.1,fun i x c hx hc=>⟨(r.2 i x c hx hc).1,fun id hid=>⟨Nat.le_trans hn ((r.2 i x c hx hc).2 id hid).1,((r.2 i x c hx hc).2 id hid).2⟩⟩⟩
theorem FnsR.app {h:H} {n0:Nat} {T:Nat→Prop} {N' M':List AV} {N M:List (List Ins)} (a:FnsR h n0 T N' N) (b:FnsR h n0 T M' M):FnsR h n0 T (N'++M') (N++M):=
 ⟨by simp[a.1,b.1],fun i x c hx hc=>by
  by_cases hi:i<N'.length
  ·rw[List.getElem?_append_left hi]at hx
   rw[List.getElem?_append_left (by rw[←a.1];exact hi)]at hc
   exact a.2 i x c hx hc
  ·rw[List.getElem?_append_right (by omega)]at hx
   rw[List.getElem?_append_right (by rw[←a.1];omega),←a.1]at hc
   exact b.2 _ x c hx hc⟩
theorem FnsR.cons {h:H} {n0:Nat} {T:Nat→Prop} {x:AV} {c:List Ins} {N':List AV} {N:List (List Ins)} (hc:fI h x c) (hi:∀ id,cB x=some id→n0≤id∧¬ T id) (r:FnsR h n0 T N' N):FnsR h n0 T (x::N') (c::N):=
 ⟨by simp[r.1],fun i y d hy hd=>by
  cases i with
  | zero=>simp at hy hd;subst hy;subst hd;exact⟨hc,hi⟩
  | succ i=>exact r.2 i y d (by simpa using hy) (by simpa using hd)⟩
theorem appR_funs {h:H} {fv:AV} {F:List AV} (hc:FunsR h fv F) (hl:F.length≤1000000) {i1:Nat} {x:AV} (hx:x.one=true) (h1:h.t.get i1=some (.row 1 54 1 [x])) :
  ∃ fv' h',eQ 54 1 24 h fv (.rs i1 1 true)=some (fv',h')∧FunsR h' fv' (F++[x])∧Fr (cB fv).toList h h'∧∃ id,fv' = .rs id (F.length+1) true∧(cB fv=some id∨h.nx≤id):=by
 have hr:eO 1 h (.rs i1 1 true)=some (1,[x]):=by simp[eO,h1,bB,hx]
 rcases hc with ⟨rfl,rfl⟩|⟨id,rfl,hg,hi⟩
 ·refine⟨.rs h.nx 1 true,h.new (.row 1 54 1 [x]),?_,.inr ⟨h.nx,rfl,T.bO _ _ _,Nat.lt_succ_self _⟩,⟨Nat.le_succ _,fun j hj _=>T.aD _ _ (by omega)⟩,h.nx,rfl,.inr (Nat.le_refl _)⟩
  unfold eQ
  rw[hr]
  simp
  rfl
 ·refine⟨.rs id (F.length+1) true,h.put id (.row (F.length+1) 54 1 (F++[x])),?_,.inr ⟨id,by simp,?_,hi⟩,⟨Nat.le_refl _,fun j hj hm=>T.aD _ _ (by simpa[cB]using hm)⟩,id,rfl,.inl rfl⟩
  ·unfold eQ
   rw[hr]
   have:(F.length+1)*24≤140737488355328:=by omega
   simp[hg,ble_dec,this]
   rfl
  ·simp[H.put,T.bO]
end Go.Proofs.YtogjplcnmibnlaaGreatDoor.Env
