/- The reference's under. -/
import Derived.Test.YtogjplcnmibnlaaGreatDoorCZ
set_option autoImplicit false
set_option maxRecDepth 100000
set_option maxHeartbeats 4000000
set_option linter.unusedSimpArgs false
set_option linter.unusedVariables false
namespace Go.Proofs.YtogjplcnmibnlaaGreatDoor.Env
open Go.Ev Go.Ev.Nd
theorem strs_ones (a:List Str):bY (strs a)=true:=by
  induction a with
  | nil=>rfl
  | cons t l ih=>simpa[strs,bY,AV.cells,AV.one,bB]using ih
theorem body82:Tryz.f82.body=some (aC Tryz.f82 []):=rfl
theorem under14_run {E : Env} (hty : E.ty = env.ty) (hpl : E.plan = env.plan) (hp : E.prim 82 = none) (hfn : E.fns = env.fns) {oa ob : Go.Ev.Own} {a b : List Str} (hl : a.length + b.length ≤ 1000000) (h : H) :
    ∃ h' w',evL E 82 [.sl ob (strs b),.sl oa (strs a)] h=some (.sl w' (strs (a++b)),h')∧h.nx≤h'.nx∧∀ j,j<h.nx→h'.t.get j=h.t.get j:=by
  have la:=cA a
  have lb:=cA b
  obtain⟨w1,h1,k1,r1,n1,g1⟩:=app_any (e:=9) (sz:=1) (byt:=16) (h:=h) (w := .full) (xs:=[]) (ys:=strs a) (by omega) (by omega) rfl (strs_sz a) (strs_ones a) (by simp[la];omega) (.inl ⟨rfl,rfl⟩)
  rw[List.nil_append]at k1 r1
  obtain⟨w2,h2,k2,r2,n2,g2⟩:=app_any (e:=9) (sz:=1) (byt:=16) (xs:=strs a) (ys:=strs b) (by omega) (by omega) (strs_sz a) (strs_sz b) (strs_ones b) (by rw[la,lb];omega) r1
  have ow:=own_app (h:=h) (.inl ⟨rfl,rfl⟩) k1
  refine⟨h2,w2,?_,by omega,fun j hj => ?_⟩
  · rw[bE E hp (by rw[hfn];kernel_rfl) body82 _ _ rfl]
    simp only[aC,sub,Tryz.f82]
    rw[strs_app]
    simp[EVT,aT,bC,aX,bA,bT,aL,aN,bF,AV.cells,aG,aZ,val,aH,aO,aM,setArgs,bQ,bS,bJ,aR,TYC,hty,k1,k2]
  · rw [g2 j (by omega) (fun e => by rcases ow j e with h3 | h3; · cases h3
                                     · omega),g1 j hj (by simp)]
end Go.Proofs.YtogjplcnmibnlaaGreatDoor.Env
namespace Go.Proofs.YtogjplcnmibnlaaGreatDoor.Env
open Go.Ev Go.Ev.Nd
attribute [local simp] bC aX bA bT aL aN aQ bX bF bW dE cD aV AV.cells aG aZ val aH bN bP cP bG eI aU aO aM bY bI recheck H.new H.put cT aY bB AV.one setArgs bQ bS bJ aR aP bK
def opsD:List (List Nat × Int):=opsL.dropLast
def opJ (o:List Nat):Int:=(lookO o opsD).getD 35
theorem op84_run {E:Env} (hty:E.ty=env.ty) (hpl:E.plan=env.plan) (hp:E.prim 84=none) (hfn:E.fns=env.fns) (o:List Nat) (h:H):evL E 84 [.str o] h=some (.int .i64 (opJ o),h):=by
 rw[bE E hp (by rw[hfn];kernel_rfl) body84 _ _ rfl]
 simp only[aC,sub,Tryz.f84]
 have hJ:opJ o=(lookO o opsD).getD 35:=rfl
 rw[hJ]
 simp only[opsD,opsL,List.dropLast,lookO]
 cases c0:aB o [97,100,100]with
 | true=>simp[EVT,aT,hty,bytesOf,c0]
 | false=>
 cases c1:aB o [115,117,98]with
 | true=>simp[EVT,aT,hty,bytesOf,c0,c1]
 | false=>
 cases c2:aB o [109,117,108]with
 | true=>simp[EVT,aT,hty,bytesOf,c0,c1,c2]
 | false=>
 cases c3:aB o [108,101,115,115]with
 | true=>simp[EVT,aT,hty,bytesOf,c0,c1,c2,c3]
 | false=>
 cases c4:aB o [101,113]with
 | true=>simp[EVT,aT,hty,bytesOf,c0,c1,c2,c3,c4]
 | false=>
 cases c5:aB o [99,97,116]with
 | true=>simp[EVT,aT,hty,bytesOf,c0,c1,c2,c3,c4,c5]
 | false=>
 cases c6:aB o [99,111,110,115]with
 | true=>simp[EVT,aT,hty,bytesOf,c0,c1,c2,c3,c4,c5,c6]
 | false=>
 cases c7:aB o [112,97,105,114]with
 | true=>simp[EVT,aT,hty,bytesOf,c0,c1,c2,c3,c4,c5,c6,c7]
 | false=>
 cases c8:aB o [115,101,116]with
 | true=>simp[EVT,aT,hty,bytesOf,c0,c1,c2,c3,c4,c5,c6,c7,c8]
 | false=>
 cases c9:aB o [108,105,110,107]with
 | true=>simp[EVT,aT,hty,bytesOf,c0,c1,c2,c3,c4,c5,c6,c7,c8,c9]
 | false=>
 cases c10:aB o [97,112,112]with
 | true=>simp[EVT,aT,hty,bytesOf,c0,c1,c2,c3,c4,c5,c6,c7,c8,c9,c10]
 | false=>
 cases c11:aB o [114,97,105,115,101]with
 | true=>simp[EVT,aT,hty,bytesOf,c0,c1,c2,c3,c4,c5,c6,c7,c8,c9,c10,c11]
 | false=>
 cases c12:aB o [103,101,116]with
 | true=>simp[EVT,aT,hty,bytesOf,c0,c1,c2,c3,c4,c5,c6,c7,c8,c9,c10,c11,c12]
 | false=>
 cases c13:aB o [102,115,116]with
 | true=>simp[EVT,aT,hty,bytesOf,c0,c1,c2,c3,c4,c5,c6,c7,c8,c9,c10,c11,c12,c13]
 | false=>
 cases c14:aB o [115,110,100]with
 | true=>simp[EVT,aT,hty,bytesOf,c0,c1,c2,c3,c4,c5,c6,c7,c8,c9,c10,c11,c12,c13,c14]
 | false=>
 cases c15:aB o [114,101,102]with
 | true=>simp[EVT,aT,hty,bytesOf,c0,c1,c2,c3,c4,c5,c6,c7,c8,c9,c10,c11,c12,c13,c14,c15]
 | false=>
 cases c16:aB o [99,101,108,108]with
 | true=>simp[EVT,aT,hty,bytesOf,c0,c1,c2,c3,c4,c5,c6,c7,c8,c9,c10,c11,c12,c13,c14,c15,c16]
 | false=>
 cases c17:aB o [116,97,103]with
 | true=>simp[EVT,aT,hty,bytesOf,c0,c1,c2,c3,c4,c5,c6,c7,c8,c9,c10,c11,c12,c13,c14,c15,c16,c17]
 | false=>
 cases c18:aB o [108,105,110,107,115]with
 | true=>simp[EVT,aT,hty,bytesOf,c0,c1,c2,c3,c4,c5,c6,c7,c8,c9,c10,c11,c12,c13,c14,c15,c16,c17,c18]
 | false=>
 cases c19:aB o [115,105,122,101]with
 | true=>simp[EVT,aT,hty,bytesOf,c0,c1,c2,c3,c4,c5,c6,c7,c8,c9,c10,c11,c12,c13,c14,c15,c16,c17,c18,c19]
 | false=>
 simp[EVT,aT,hty,bytesOf,c0,c1,c2,c3,c4,c5,c6,c7,c8,c9,c10,c11,c12,c13,c14,c15,c16,c17,c18,c19]
end Go.Proofs.YtogjplcnmibnlaaGreatDoor.Env
namespace Go.Proofs.YtogjplcnmibnlaaGreatDoor.Env
open Go.Ev Go.Ev.Nd
noncomputable def b80_0:Code:=aK Tryz.f80 0
theorem body80:Tryz.f80.body=some (.seq (aC Tryz.f80 [0]) (.seq (aC Tryz.f80 [1,0]) (.block 0 (.seq (aC Tryz.f80 [1,1,0,0]) (.cond (condAt Tryz.f80 [1,1,0,1]) (aC Tryz.f80 [1,1,0,1,0]) (.seq (aC Tryz.f80 [1,1,0,1,1,0]) (.cond (condAt Tryz.f80 [1,1,0,1,1,1]) (.seq (aC Tryz.f80 [1,1,0,1,1,1,0,0]) (.seq (.block 1 (.loop b80_0)) (aC Tryz.f80 [1,1,0,1,1,1,0,1,1]))) (aC Tryz.f80 [1,1,0,1,1,1,1])))))))):=rfl
theorem loop80 {E:Env} (hty:E.ty=env.ty) (hpl:E.plan=env.plan) {o:Go.Ev.Own} {L:List Str} {v:List Nat} {c0 c2 c3 c4 c5:AV} {b q:Nat} {m:AV} (hl:L.length≤9223342036854775807):∀ (l:List Str) (i:Nat) {tm:Tm} {h:H} {x:Option (Ex × Tm × H)},cdL E 80 59 (.loop b80_0) tm h=x→l=L.drop i→i≤L.length →
  tm.get 0=some m→tm.get 1=some (.int .i64 ↑q)→tm.get 3=some (.sl o (strs L))→tm.get 6=some (.ptr (some (b,0)))→tm.get 8=some (.int .i64 ↑i)→h.t.get b=some (.cells [c0,.str v,c2,c3,c4,c5])→dA l v=true →
  ∃ tm',x=some (.exit 1,tm',h)∧tm'.get 8=some (.int .i64 (idxS v l i))∧tm'.get 0=some m∧tm'.get 1=some (.int .i64 ↑q)∧tm'.get 6=some (.ptr (some (b,0)))
 | [],i,tm,h,x,hx,hd,hi,h0,h1,h3,h6,h8,hb,hs=>by simp[dA]at hs
 | c::l,i,tm,h,x,hx,hd,hi,h0,h1,h3,h6,h8,hb,hs=>by
  obtain⟨hlt,hc,hd'⟩:=gC hd
  have hat:=strs_get hc
  have hil:=cA L
  obtain⟨R,hR,hx⟩:=aS hx
  have hlt':=eR hlt
  have hw:=cH (i:=i) (by omega)
  cases hn:aB c.s v with
  | true=>
   have hb':=(nb_comm v c.s).trans hn
   simp[b80_0,aK,Tryz.f80,loops,EVT,aX,bA,bT,aL,aN,aQ,aV,AV.cells,aG,aZ,val,aH,bN,bP,cP,aU,bI,recheck,bJ,aR,aP,bK,TYC,lp,hty,hpl,h3,h6,h8,hb,hil,hlt',hat,hn]at hx
   exact⟨_,by rw[←hx],by simp[T.aA,idxS,hb',h8],by simp[T.aA,h0],by simp[T.aA,h1],by simp[T.aA,h6]⟩
  | false=>
   have hb':=(nb_comm v c.s).trans hn
   simp[b80_0,aK,Tryz.f80,loops,EVT,bC,aX,bA,bT,aL,aN,aQ,aV,AV.cells,aG,aZ,val,aH,bN,bP,cP,aU,bI,recheck,bJ,aR,aP,bK,TYC,lp,hty,hpl,h3,h6,h8,hb,hil,hlt',hat,hn,hw]at hx
   rw[hR]at hx
   have e2:idxS v (c::l) i=idxS v l (i+1):=by simp[idxS,hb']
   rw[e2]
   exact loop80 hty hpl (o:=o) (v:=v) hl l (i+1) hx hd' hlt (by simp[T.aA,h0]) (by simp[T.aA,h1]) (by simp[T.aA,h3]) (by simp[T.aA,h6]) (by simp[T.aA]) hb (by simpa[dA,hb']using hs)
def Md (h:H) (m:Nat) (fv:AV) (F:List AV) (w:Go.Ev.Own) (S':List Str) (CS':List (List Ins)) (h':H):Prop:=
 ∃ fv' F' w',MR h' m fv' F' w' S' CS'∧StR h (TR m fv F w) (TR m fv' F' w') h'
def ndC (t:Nd):List AV:=[.str t.op,.str t.name,.str t.arg,.int .i64 t.n,.int .i64 t.at_,.sl .no (avs t.kids)]
structure Bx (h:H) (b:Nat) (t:Nd) (T:Nat→Prop):Prop where
 g:h.t.get b=some (.cells (ndC t))
 lt:b<h.nx
 no:¬ T b
theorem Bx.step {h h':H} {b:Nat} {t:Nd} {T T':Nat→Prop} (x:Bx h b t T) (s:StR h T T' h'):Bx h' b t T':=
 ⟨by rw[s.keep b x.lt x.no];exact x.g,Nat.lt_of_lt_of_le x.lt s.nx,fun ht=>(s.new b ht).elim x.no (by have:=x.lt;omega)⟩
def boxed (h:H) (t:Nd):H:=⟨h.t.set h.nx (.cells (ndC t)),h.nx+1⟩
theorem boxed_nx (h:H) (t:Nd):(boxed h t).nx=h.nx+1:=rfl
theorem boxed_get (h:H) (t:Nd) {j:Nat} (hj:j<h.nx):(boxed h t).t.get j=h.t.get j:=T.aD _ _ (by omega)
theorem set_get {CS:List (List Ins)} {q:Nat} (hq:q<CS.length) (c:List Ins) (N:List (List Ins)):(CS.set q c++N)[q]?=some c:=by
 rw[List.getElem?_append_left (by simpa using hq),List.getElem?_set_self hq]
theorem set_set {CS:List (List Ins)} {q:Nat} (hq:q<CS.length) (a c:List Ins) (N:List (List Ins)):(CS.set q a++N).set q c=CS.set q c++N:=by
 rw[List.set_append_left _ _ (by simpa using hq),List.set_set]
theorem set_len (CS:List (List Ins)) (q:Nat) (a:List Ins) (N:List (List Ins)):(CS.set q a++N).length=CS.length+N.length:=by simp
section
variable {h:H} {m:Nat} {fv:AV} {F:List AV} {w:Go.Ev.Own} {S:List Str} {CS:List (List Ins)}
theorem MR.boxed (M:MR h m fv F w S CS) (t:Nd):MR (boxed h t) m fv F w S CS∧StR h (TR m fv F w) (TR m fv F w) (boxed h t)∧Bx (Env.boxed h t) h.nx t (TR m fv F w):=
 ⟨M.grow (Nat.le_succ _) fun j hj=>boxed_get h t hj,.grow (Nat.le_succ _) fun j hj=>boxed_get h t hj,T.bO _ _ _,Nat.lt_succ_self _,fun ht=>by have:=M.nt ht;omega⟩
structure AddI (h:H) (m:Nat) (fid:Nat) (F:List AV) (w:Go.Ev.Own) (S:List Str) (CS:List (List Ins)) (q:Nat) (l:List Ins) (op n:Int) (x:AV) (id:Nat) (h2:H):Prop where
 gm:h.t.get m=some (.cells [.rs fid F.length true,.sl w (strs S)])
 gf:h.t.get fid=some (.row F.length 54 1 F)
 gx:F[q]?=some x
 ap:eQ 62 2 16 ⟨h.t.set h.nx (.row 1 62 2 [.int .i64 op,.int .i64 n]),h.nx+1⟩ x (.rs h.nx 1 true)=some (.rs id (l.length+1) true,h2)
 gf2:h2.t.get fid=some (.row F.length 54 1 F)
 gm2:h2.t.get m=some (.cells [.rs fid F.length true,.sl w (strs S)])
 mf:m≠fid
 nm:m≠h.nx
 nf:fid≠h.nx
 ms:MR ⟨h2.t.set fid (.row F.length 54 1 (F.set q (.rs id (l.length+1) true))),h2.nx⟩ m (.rs fid F.length true) (F.set q (.rs id (l.length+1) true)) w S (CS.set q (l++[⟨op,n⟩]))
 st:StR h (TR m (.rs fid F.length true) F w) (TR m (.rs fid F.length true) (F.set q (.rs id (l.length+1) true)) w) ⟨h2.t.set fid (.row F.length 54 1 (F.set q (.rs id (l.length+1) true))),h2.nx⟩
theorem add_core (M:MR h m fv F w S CS) {q:Nat} {l:List Ins} (hq:CS[q]?=some l) (hl:l.length≤1000000) (op n:Int) :
  ∃ fid x id h2,fv = .rs fid F.length true∧q<F.length∧AddI h m fid F w S CS q l op n x id h2:=by
 obtain⟨x,hx,hxc⟩:=M.at hq
 have hql:q<F.length:=(List.getElem?_eq_some_iff.1 hx).1
 have gn:∀ j,j<h.nx→(⟨h.t.set h.nx (.row 1 62 2 (insC [⟨op,n⟩])),h.nx+1⟩:H).t.get j=h.t.get j:=fun j hj=>T.aD _ _ (by omega)
 obtain⟨v',h2,k1,k2,k3,id,rfl,k5⟩:=appR_code (h:=⟨h.t.set h.nx (.row 1 62 2 (insC [⟨op,n⟩])),h.nx+1⟩) (hxc.mono (Nat.le_succ _) fun j _ hj=>gn j hj) hl (i1:=h.nx) (x:=⟨op,n⟩) (T.bO _ _ _)
 obtain⟨fid,rfl,hfg,hfx⟩:∃ fid,fv = .rs fid F.length true∧h.t.get fid=some (.row F.length 54 1 F)∧fid<h.nx:=by
  rcases M.fr with ⟨_,e⟩|h
  ·rw[e]at hql;simp at hql
  ·exact h
 have keep2:∀ j,j<h.nx→cB x≠some j→h2.t.get j=h.t.get j:=fun j hj hr=>by
  rw[k3.2 j (Nat.lt_succ_of_lt hj) (by cases hr2:cB x with|none=>simp|some i=>simp;rintro rfl;exact hr hr2)]
  exact gn j hj
 have n2:h.nx+1≤h2.nx:=k3.1
 have hfg2:h2.t.get fid=some (.row F.length 54 1 F):=by rw[keep2 fid hfx (fun_code M.fr hxc rfl)];exact hfg
 have hm2:h2.t.get m=some (.cells [.rs fid F.length true,.sl w (strs S)]):=by rw[keep2 m M.mx (hxc.nc M.gm)];exact M.gm
 have hfm:m≠fid:=by rintro rfl;exact M.fr.nc M.gm rfl
 have hidf:id≠fid:=by
  rintro rfl
  rcases k5 with e|e
  ·exact fun_code M.fr hxc rfl e
  ·simp only at e;omega
 have P:=M.put (v' := .rs id (l.length+1) true) (l':=l++[⟨op,n⟩]) (h':=⟨h2.t.set fid (.row F.length 54 1 (F.set q (.rs id (l.length+1) true))),h2.nx⟩) hx hq (by simp only;omega)
  (.inr ⟨fid,by simp,by simp[T.bO],by simp only;omega⟩)
  (fun j hj h1 h3=>by rw[show(⟨h2.t.set fid (.row F.length 54 1 (F.set q (.rs id (l.length+1) true))),h2.nx⟩:H).t.get j=h2.t.get j from T.aD _ _ (by rintro rfl;exact h1 rfl)];exact keep2 j hj h3)
  (k2.mono (h':=⟨h2.t.set fid (.row F.length 54 1 (F.set q (.rs id (l.length+1) true))),h2.nx⟩) (Nat.le_refl _) fun j hj _=>T.aD _ _ (by simp only[cB,Option.some.injEq]at hj;omega))
  (fun i hi=>by simp only[cB,Option.some.injEq]at hi;subst hi;exact k5.imp (fun e=>e) fun e=>by simp only at e;omega)
 exact⟨fid,x,id,h2,rfl,hql,M.gm,hfg,hx,k1,hfg2,hm2,hfm,by have:=M.mx;omega,by omega,P.1,P.2⟩
end
end Go.Proofs.YtogjplcnmibnlaaGreatDoor.Env
namespace Go.Proofs.YtogjplcnmibnlaaGreatDoor.Env
open Go.Ev Go.Ev.Nd
attribute [local simp] bC aX bA bT aL aN aQ bX bF bW dE cD aV AV.cells aG aZ val aH bN bP cP bG eI aU aO aM bY bI recheck H.new H.put cT aY bB AV.one setArgs bQ bS bJ aR aP bK
theorem idx_has {v:List Nat}:∀ {l:List Str} (i:Nat),dA l v=true→∃ k:Nat,idxS v l i=↑k
 | [],i,h=>by simp[dA]at h
 | t::l,i,h=>by
  cases hb:aB v t.s with
  | true=>exact⟨i,by simp[idxS,hb]⟩
  | false=>
   obtain⟨k,e⟩:=idx_has (l:=l) (i+1) (by simpa[dA,hb]using h)
   exact⟨k,by simp[idxS,hb,e]⟩
def leafV (t:Nd) (en:List Str):Prop:=((aB t.op oUnit||aB t.op oNil)=true→t.n=0)∧(aB t.op oVar=true→dA en t.name=true)
theorem leaf14_run {E:Env} (hty:E.ty=env.ty) (hpl:E.plan=env.plan) (hp:E.prim 80=none) (hp46:E.prim 46=none) (hp116:E.prim 116=none) (hfn:E.fns=env.fns) {h:H} {m:Nat} {fv:AV} {F:List AV} {w:Go.Ev.Own} {S:List Str} {CS:List (List Ins)} (M:MR h m fv F w S CS) {q:Nat} {l:List Ins} (hq:CS[q]?=some l) (hl:l.length≤1000000) (hS:S.length≤1000000)
  {en:List Str} (hen:en.length≤1000000) (oe:Go.Ev.Own) (t:Nd) (hv:leafV t en) {S':List Str} {i:Ins} (hg:dL t.op t.name t.n en S=some (S',i)) :
  ∃ h',evL E 80 [.ptr (some (m,0)),.int .i64 ↑q,t.av,.sl oe (strs en)] h=some (.tup [],h')∧Md h m fv F w S' (CS.set q (l++[i])) h':=by
 obtain⟨M1,T1,B1⟩:=M.boxed t
 have hb:=B1.g
 simp only[ndC]at hb
 have hnx:=boxed_nx h t
 have hbx:boxed h t=⟨h.t.set h.nx (.cells [.str t.op,.str t.name,.str t.arg,.int .i64 t.n,.int .i64 t.at_,.sl .no (avs t.kids)]),h.nx+1⟩:=rfl
 obtain⟨y,hy⟩:∃ y,evL E 80 [.ptr (some (m,0)),.int .i64 ↑q,t.av,.sl oe (strs en)] h=y:=⟨_,rfl⟩
 rw[hy]
 rw[bE E hp (by rw[hfn];kernel_rfl) body80 _ _ rfl]at hy
 simp only[aC,condAt,sub,Tryz.f80]at hy
 rw[bZ t]at hy
 cases c5:aB t.op oStr with
 | true=>
  have hS':dL t.op t.name t.n en S=some (strF S t.name,⟨2,strI S t.name⟩):=by
   rw[nb_of c5];rfl
  rw[hS']at hg
  injection hg with hg;injection hg with hg1 hg2;subst hg1;subst hg2
  obtain⟨h2,w2,k2,M2,T2⟩:=str14_run hty hpl hp116 hfn M1 hS t.name
  obtain⟨h3,v3,k3,M3,T3⟩:=add_run hty hpl hp46 hfn M2 hq hl 2 (strI S t.name)
  refine⟨h3,?_,_,_,_,M3,(T1.trans T2).trans T3⟩
  rw[hbx]at k2
  simp only[oStr]at c5
  simp[EVT,aT,TYC,hty,hpl,bytesOf,c5,k2,k3]at hy
  rw[←hy]
 | false=>
 cases c6:aB t.op oVar with
 | true=>
  have hS':dL t.op t.name t.n en S=some (S,⟨3,idxS t.name en 0⟩):=by
   rw[nb_of c6];rfl
  rw[hS']at hg
  injection hg with hg;injection hg with hg1 hg2;subst hg1;subst hg2
  obtain⟨k,hk⟩:=idx_has (l:=en) 0 (hv.2 c6)
  obtain⟨h3,v3,k3,M3,T3⟩:=add_run hty hpl hp46 hfn M1 hq hl 3 (idxS t.name en 0)
  refine⟨h3,?_,_,_,_,M3,T1.trans T3⟩
  simp only[oStr]at c5
  simp only[oVar]at c6
  simp[EVT,aT,TYC,hty,hpl,bytesOf,c5,c6]at hy
  generalize hx:cdL E 80 59 (.loop b80_0) _ _=x at hy
  rw[←hbx]at hx
  obtain⟨tm',e1,g8,g0,g1,g6⟩:=loop80 hty hpl (o:=oe) (L:=en) (v:=t.name) (b:=h.nx) (q:=q) (m := .ptr (some (m,0))) (by omega) en 0 hx rfl (Nat.zero_le _) (by simp[T.aA]) (by simp[T.aA]) (by simp[T.aA]) (by simp[T.aA]) (by simp[T.aA]) hb (hv.2 c6)
  subst e1
  simp[EVT,g8,g0,g1,k3]at hy
  rw[←hy]
 | false=>
  obtain⟨fid,x,id,h2,rfl,hql,A⟩:=add_core M1 hq hl 1 t.n
  have hi:S'=S∧i=⟨1,t.n⟩:=by
   unfold dL at hg
   rw[c5,c6]at hg
   cases c1:(aB t.op oInt||aB t.op oBool)with
   | true=>rw[c1]at hg;simp only[cond_true,Option.some.injEq,Prod.mk.injEq]at hg;exact⟨hg.1.symm,hg.2.symm⟩
   | false=>
    rw[c1]at hg
    cases c2:(aB t.op oUnit||aB t.op oNil)with
    | true=>rw[c2]at hg;simp only[cond_true,cond_false,Option.some.injEq,Prod.mk.injEq]at hg;exact⟨hg.1.symm,by rw[hv.1 c2];exact hg.2.symm⟩
    | false=>rw[c2]at hg;simp at hg
  obtain⟨rfl,rfl⟩:=hi
  refine⟨_,?_,_,_,_,A.ms,T1.trans A.st⟩
  have hfill:=fill_set (.rs id (l.length+1) true) F q hql
  have hblt:Nat.blt q F.length=true:=cR.2 hql
  have hle:q+1≤F.length:=hql
  have hxe:F[q]=x:=(List.getElem?_eq_some_iff.1 A.gx).2
  have a1:=A.gm
  have a2:=A.gf
  have a3:=A.gx
  have a4:=A.ap
  have a5:=A.gf2
  have a6:=A.gm2
  have a7:=A.mf
  have a8:=A.nm
  have a9:=A.nf
  rw[hbx]at a1 a2 a4 a8 a9 hb
  simp only at a1 a2 a4 a8 a9 hb
  have b1:m≠h.nx:=by have:=M.mx;omega
  have b2:h.nx≠h.nx+1:=by omega
  simp only[oStr]at c5
  simp only[oVar]at c6
  simp[EVT,aT,TYC,hty,hpl,bytesOf,c5,c6,a1,a2,hxe,hql,hle,a4,a5,a6,hb,hfill]at hy
  rw[←hy]
end Go.Proofs.YtogjplcnmibnlaaGreatDoor.Env
namespace Go.Proofs.YtogjplcnmibnlaaGreatDoor.Env
open Go.Ev Go.Ev.Nd
def Sta (CS:List (List Ins)) (q:Nat) (c:List Ins) (N:List (List Ins)):List (List Ins):=CS.set q c++N
theorem sta_get {CS:List (List Ins)} {q:Nat} (hq:q<CS.length) (c:List Ins) (N:List (List Ins)):(Sta CS q c N)[q]?=some c:=set_get hq c N
theorem sta_set {CS:List (List Ins)} {q:Nat} (hq:q<CS.length) (a c:List Ins) (N:List (List Ins)):(Sta CS q a N).set q c=Sta CS q c N:=set_set hq a c N
theorem sta_len (CS:List (List Ins)) (q:Nat) (a:List Ins) (N:List (List Ins)):(Sta CS q a N).length=CS.length+N.length:=set_len CS q a N
theorem sta_one {CS:List (List Ins)} {q:Nat} {l:List Ins} (hq:CS[q]?=some l):CS=Sta CS q l []:=by
 obtain⟨_,e⟩:=List.getElem?_eq_some_iff.1 hq
 rw[←e]
 simp[Sta]
structure EOk14 (E:Env):Prop where
 ty:E.ty=env.ty
 pl:E.plan=env.plan
 fn:E.fns=env.fns
 no:∀ k∈[26,45,46,80,81,82,83,84,116,117],E.prim k=none
section
variable {E:Env} {h:H} {m:Nat} {fv:AV} {F:List AV} {w:Go.Ev.Own} {S:List Str} {CS:List (List Ins)} {q:Nat} {c:List Ins} {N:List (List Ins)}
theorem add_st (e:EOk14 E) (M:MR h m fv F w S (Sta CS q c N)) (hq:q<CS.length) (hl:c.length≤1000000) (op n:Int) :
  ∃ h',evL E 46 [.ptr (some (m,0)),.int .i64 ↑q,.int .i64 op,.int .i64 n] h=some (.int .i64 ↑c.length,h')∧Md h m fv F w S (Sta CS q (c++[⟨op,n⟩]) N) h':=by
 obtain⟨h',v',k,M',T⟩:=add_run e.ty e.pl (e.no 46 (by simp)) e.fn M (sta_get hq c N) hl op n
 rw[sta_set hq]at M'
 exact⟨h',k,_,_,_,M',T⟩
theorem here_st (e:EOk14 E) (M:MR h m fv F w S (Sta CS q c N)) (hq:q<CS.length) (hl:c.length≤1000000) {p:Nat} (hp:p<c.length) :
  ∃ h',evL E 117 [.ptr (some (m,0)),.int .i64 ↑q,.int .i64 ↑p] h=some (.tup [],h')∧Md h m fv F w S (Sta CS q (hereF c p) N) h':=by
 obtain⟨h',k,M',T⟩:=here14_run e.ty e.pl (e.no 117 (by simp)) e.fn M (sta_get hq c N) hl hp
 rw[sta_set hq]at M'
 exact⟨h',k,_,_,_,M',T⟩
theorem under_st (e:EOk14 E) (M:MR h m fv F w S CS) {a b:List Str} (oa ob:Go.Ev.Own) (hl:a.length+b.length≤1000000) :
  ∃ h' w',evL E 82 [.sl ob (strs b),.sl oa (strs a)] h=some (.sl w' (strs (a++b)),h')∧MR h' m fv F w S CS∧StR h (TR m fv F w) (TR m fv F w) h':=by
 obtain⟨h',w',k,n,g⟩:=under14_run e.ty e.pl (e.no 82 (by simp)) e.fn hl h
 exact⟨h',w',k,M.grow n g,.grow n g⟩
end
def bi (t:Nd) (i:Nat):List Str:=
 bif aB t.op oFun then [⟨t.name⟩]else bif aB t.op oLet then(bif Nat.beq i 1 then [⟨t.name⟩]else [])
 else bif aB t.op oRec then(bif Nat.beq i 1 then [⟨t.name⟩]else [⟨t.arg⟩,⟨t.name⟩])
 else bif aB t.op oIf then []else bif aB t.op dV then(bif Nat.beq i 2 then [⟨t.arg⟩,⟨t.name⟩]else [])
 else bif aB t.op oTry then(bif Nat.beq i 1 then [⟨t.name⟩]else [])else []
def Vd:Nat→Nd→List Str→Prop
 | 0,_,_=>True
 | d+1,t,en=>leafV t en∧(arity t.op=none→(∀ S,dL t.op t.name t.n en S=none)→opJ t.op=opI t.op)∧∀ i,i<t.kids.length→Vd d (kid t i) (bi t i++en)
def NR14 (E:Env) (d:Nat):Prop:=∀ (t:Nd) (en:List Str) (oe:Go.Ev.Own) {h:H} {m:Nat} {fv:AV} {F:List AV} {w:Go.Ev.Own} {S:List Str} {CS:List (List Ins)} {q:Nat} {c:List Ins} {N:List (List Ins)},t.dep≤d→arOk t=true→Vd d t en→MR h m fv F w S (Sta CS q c N)→q<CS.length →
 S.length+t.size≤1000000→CS.length+N.length+t.size≤1000000→c.length+8*t.size≤1000000→en.length+2*t.dep≤1000000 →
 ∃ h',evL E 45 [.ptr (some (m,0)),.int .i64 ↑q,t.av,.sl oe (strs en)] h=some (.tup [],h') ∧
  Md h m fv F w (gen d t en S (CS.length+N.length) c.length).1 (Sta CS q (c++(gen d t en S (CS.length+N.length) c.length).2.2) (N++(gen d t en S (CS.length+N.length) c.length).2.1)) h'
section
variable {E:Env} {h:H} {m:Nat} {fv:AV} {F:List AV} {w:Go.Ev.Own} {S:List Str} {CS:List (List Ins)} {q:Nat} {c:List Ins} {N:List (List Ins)} {d:Nat}
theorem body83:Tryz.f83.body=some (aC Tryz.f83 []):=rfl
theorem bound14_run (e:EOk14 E) (nr:NR14 E d) (k:Nd) (p:List Nat) (en:List Str) (oe:Go.Ev.Own) (hd:k.dep≤d) (ha:arOk k=true) (hv:Vd d k (⟨p⟩::en)) (M:MR h m fv F w S (Sta CS q c N)) (hq:q<CS.length)
  (b1:S.length+k.size≤1000000) (b2:CS.length+N.length+k.size≤1000000) (b3:c.length+8*k.size+2≤1000000) (b4:en.length+1+2*k.dep≤1000000) :
  ∃ h',evL E 83 [.ptr (some (m,0)),.int .i64 ↑q,k.av,.str p,.sl oe (strs en)] h=some (.tup [],h') ∧
   Md h m fv F w (genB (gen d) k p en S (CS.length+N.length) c.length).1 (Sta CS q (c++(genB (gen d) k p en S (CS.length+N.length) c.length).2.2) (N++(genB (gen d) k p en S (CS.length+N.length) c.length).2.1)) h':=by
 have hty:=e.ty
 have hpl:=e.pl
 obtain⟨M1,T1,B1⟩:=M.boxed k
 obtain⟨h2,k2,fv2,F2,w2,M2,T2⟩:=add_st e M1 hq (by omega) 6 0
 have B2:=B1.step T2
 obtain⟨h3,ow,k3,M3,T3⟩:=under_st e M2 (a:=[(⟨p⟩:Str)]) (b:=en) .full oe (by simp;omega)
 have B3:=B2.step T3
 obtain⟨h4,k4,fv4,F4,w4,M4,T4⟩:=nr k ((⟨p⟩:Str)::en) ow hd ha hv M3 hq (by omega) (by omega) (by simp;omega) (by simp;omega)
 have hlen:=cW d k ((⟨p⟩:Str)::en) S (CS.length+N.length) (c++[(⟨6,0⟩:Ins)]).length ha
 obtain⟨h5,k5,fv5,F5,w5,M5,T5⟩:=add_st e M4 hq (by have:=hlen.2.2;simp at this ⊢;omega) 7 0
 have K:evL E 83 [.ptr (some (m,0)),.int .i64 ↑q,k.av,.str p,.sl oe (strs en)] h=some (.tup [],h5):=by
  rw[bE E (e.no 83 (by simp)) (by rw[e.fn];kernel_rfl) body83 _ _ rfl]
  simp only[aC,sub,Tryz.f83]
  have g2:=B2.g
  have g3:=B3.g
  rw[bZ k]at k4 ⊢
  rw[show strs [(⟨p⟩:Str)]=[AV.str p] from rfl]at k3
  simp only[boxed,ndC]at k2 g2 g3
  simp[EVT,aT,bC,aX,bA,bT,aL,aN,aQ,bX,aV,AV.cells,aG,aZ,val,aH,aO,aM,bI,recheck,H.new,setArgs,bQ,bS,bJ,aR,TYC,hty,hpl,k2,g2,g3,k3,k4,k5]
 simp only[List.length_append,List.length_cons,List.length_nil,Nat.zero_add,List.append_assoc,List.cons_append,List.nil_append]at M5
 exact⟨h5,K,fv5,F5,w5,M5,(((T1.trans T2).trans T3).trans T4).trans T5⟩
end
section
variable {E:Env} {h:H} {m:Nat} {fv:AV} {F:List AV} {w:Go.Ev.Own} {S:List Str} {CS:List (List Ins)} {d:Nat}
theorem more14 (M:MR h m fv F w S CS) (hl:F.length≤1000000) :
  ∃ id h2,eQ 54 1 24 ⟨h.t.set h.nx (.row 1 54 1 [.sl .full []]),h.nx+1⟩ fv (.rs h.nx 1 true)=some (.rs id (F.length+1) true,h2)∧h2.t.get m=some (.cells [fv,.sl w (strs S)]) ∧
   MR ⟨h2.t.set m (.cells [.rs id (F.length+1) true,.sl w (strs S)]),h2.nx⟩ m (.rs id (F.length+1) true) (F++[.sl .full []]) w S (CS++[[]]) ∧
   StR h (TR m fv F w) (TR m (.rs id (F.length+1) true) (F++[.sl .full []]) w) ⟨h2.t.set m (.cells [.rs id (F.length+1) true,.sl w (strs S)]),h2.nx⟩:=by
 have gr:∀ j,j<h.nx→(⟨h.t.set h.nx (.row 1 54 1 [.sl .full []]),h.nx+1⟩:H).t.get j=h.t.get j:=fun j hj=>T.aD _ _ (by omega)
 have M1:=M.grow (Nat.le_succ _) gr
 obtain⟨fv2,h2,k2,f2,r2,id,rfl,q2⟩:=appR_funs M1.fr hl (i1:=h.nx) (x := .sl .full []) rfl (T.bO _ _ _)
 have nofv:∀ j,cB fv≠some j→j ∉ (cB fv).toList:=fun j hj=>by cases hr:cB fv with|none=>simp|some i=>simp;rintro rfl;exact hj hr
 have keep:∀ j,j<h.nx→cB fv≠some j→h2.t.get j=h.t.get j:=fun j hj hr=>by
  rw[r2.2 j (Nat.lt_succ_of_lt hj) (nofv j hr)];exact gr j hj
 have n2:h.nx+1≤h2.nx:=r2.1
 have hm2:h2.t.get m=some (.cells [fv,.sl w (strs S)]):=by rw[keep m M.mx (M.fr.nc M.gm)];exact M.gm
 have idm:id≠m:=by
  rintro rfl
  rcases q2 with e|e
  ·exact M.fr.nc M.gm e
  ·have:=M.mx;simp only at e;omega
 generalize hh3:(⟨h2.t.set m (.cells [.rs id (F.length+1) true,.sl w (strs S)]),h2.nx⟩:H)=h3
 have nx3:h3.nx=h2.nx:=by rw[←hh3]
 have g3:∀ j,j≠m→h3.t.get j=h2.t.get j:=fun j hj=>by rw[←hh3];exact T.aD _ _ hj
 have code_of:∀ (i:Nat) x c,(F++[AV.sl .full []])[i]?=some x→(CS++[[]])[i]?=some c→(F[i]?=some x∧CS[i]?=some c)∨(x = .sl .full []∧c=[]):=fun i x c hx hc=>by
  by_cases hi:i<F.length
  ·rw[List.getElem?_append_left hi]at hx
   rw[List.getElem?_append_left (by rw[←M.ln];exact hi)]at hc
   exact .inl ⟨hx,hc⟩
  ·rw[List.getElem?_append_right (by omega)]at hx
   rw[List.getElem?_append_right (by rw[←M.ln];omega),←M.ln]at hc
   cases hk:i-F.length with
   | zero=>rw[hk]at hx hc;simp at hx hc;exact .inr ⟨hx.symm,hc⟩
   | succ k=>rw[hk]at hx;simp at hx
 refine⟨id,h2,k2,hm2,?_,?_⟩
 ·rw[hh3]
  refine⟨by rw[←hh3];exact T.bO _ _ _,by rw[nx3];have:=M.mx;omega,?_,?_,by simp[M.ln],fun i x c hx hc => ?_,fun i j x y k hx hy hxk hyk => ?_⟩
  ·rcases f2 with ⟨e,_⟩|⟨i,e,hi,hlt⟩
   ·cases e
   ·injection e with e1 e2
    subst e1
    exact .inr ⟨id,by simp,by rw[g3 id idm];exact hi,by rw[nx3];exact hlt⟩
  ·rcases M.sr with e|⟨i,e,hi,hlt⟩
   ·exact .inl e
   ·refine .inr ⟨i,e,?_,by rw[nx3];omega⟩
    rw[g3 i (by rintro rfl;rw[M.gm]at hi;cases hi),keep i hlt (str_fun M.sr M.fr e)]
    exact hi
  ·rcases code_of i x c hx hc with ⟨h1,h2'⟩|⟨rfl,rfl⟩
   ·have hxc:=M.cs i x c h1 h2'
    exact hxc.mono (by rw[nx3];omega) fun j hj hlt=>by
     rw[g3 j (by rintro rfl;exact hxc.nc M.gm hj),keep j hlt (fun e=>fun_code M.fr hxc e hj)]
   ·exact .inl ⟨rfl,rfl⟩
  ·have isF:∀ (i:Nat) x,(F++[AV.sl .full []])[i]?=some x→cB x=some k→F[i]?=some x:=fun i x hx hk=>by
    by_cases hi:i<F.length
    ·rwa [List.getElem?_append_left hi]at hx
    ·rw[List.getElem?_append_right (by omega)]at hx
     cases hk':i-F.length with
     | zero=>rw[hk']at hx;simp at hx;subst hx;simp[cB]at hk
     | succ k=>rw[hk']at hx;simp at hx
   exact M.ds i j x y k (isF i x hx hxk) (isF j y hy hyk) hxk hyk
 ·rw[hh3]
  refine⟨by rw[nx3];omega,fun j hj ht => ?_,fun j ht => ?_⟩
  ·rw[g3 j (fun e=>ht (.inl e)),keep j hj fun e=>ht (.inr (.inl e))]
  ·rcases ht with h1|h1|h1|⟨x,hx,h1⟩
   ·exact .inl (.inl h1)
   ·simp only[cB,Option.some.injEq]at h1
    subst h1
    rcases q2 with e|e
    ·exact .inl (.inr (.inl e))
    ·simp only at e;exact .inr (by omega)
   ·exact .inl (.inr (.inr (.inl h1)))
   ·rcases List.mem_append.1 hx with hx|hx
    ·exact .inl (.inr (.inr (.inr ⟨x,hx,h1⟩)))
    ·simp at hx;subst hx;simp[cB]at h1
theorem body26:Tryz.f26.body=some (aC Tryz.f26 []):=rfl
theorem fun14_run (e:EOk14 E) (nr:NR14 E d) (k:Nd) (en:List Str) (oe:Go.Ev.Own) (hd:k.dep≤d) (ha:arOk k=true) (hv:Vd d k en) (M:MR h m fv F w S CS)
  (b1:S.length+k.size≤1000000) (b2:CS.length+1+k.size≤1000000) (b3:8*k.size+8≤1000000) (b4:en.length+2*k.dep≤1000000) :
  ∃ h',evL E 26 [.ptr (some (m,0)),k.av,.sl oe (strs en)] h=some (.int .i64 ↑CS.length,h')∧Md h m fv F w (cZ (gen d) k en S CS.length).1 (CS++(cZ (gen d) k en S CS.length).2) h':=by
 have hty:=e.ty
 have hpl:=e.pl
 have hln:=M.ln
 obtain⟨M1,T1,B1⟩:=M.boxed k
 obtain⟨id,h2,k2,hm2,M2,T2⟩:=more14 M1 (by omega)
 have B2:=B1.step T2
 have e1:CS++[[]]=Sta (CS++[[]]) CS.length [] []:=sta_one (by simp)
 rw[e1]at M2
 obtain⟨h4,k4,fv4,F4,w4,M4,T4⟩:=nr k en oe hd ha hv M2 (by simp) (by omega) (by simp;omega) (by simp;omega) b4
 simp only[List.length_append,List.length_cons,List.length_nil,Nat.zero_add,Nat.add_zero,List.nil_append]at M4
 have hlen:=cW d k en S (CS.length+1) 0 ha
 obtain⟨h5,k5,fv5,F5,w5,M5,T5⟩:=add_st e M4 (by simp) (by have:=hlen.2.2;omega) 10 0
 have hw:wr .i64 (Int.sub ((↑F.length:Int)+1) 1)=↑CS.length:=by rw[show Int.sub ((↑F.length:Int)+1) 1=↑F.length from Int.add_sub_cancel ..,hln];rw[wr_eq];exact eX (by omega) (by omega)
 have K:evL E 26 [.ptr (some (m,0)),k.av,.sl oe (strs en)] h=some (.int .i64 ↑CS.length,h5):=by
  rw[bE E (e.no 26 (by simp)) (by rw[e.fn];kernel_rfl) body26 _ _ rfl]
  simp only[aC,sub,Tryz.f26]
  have g2:=B2.g
  have gm:=M1.gm
  have gm2:=M2.gm
  have one:=M1.fr.one
  have nm:m≠h.nx+1:=by have:=M.mx;omega
  have nm':m≠h.nx:=by have:=M.mx;omega
  have nm3:h.nx≠m:=by omega
  simp only[boxed,ndC]at k2 g2 gm
  rw[bZ k]at k4 ⊢
  simp[T.aA,nm3]at g2
  simp[T.aA,nm']at gm
  simp[EVT,aT,bC,aX,bA,bT,aL,aN,aQ,bX,bF,aV,AV.cells,aG,aZ,val,aH,bN,bP,aU,aO,aM,bY,H.new,H.put,aY,bB,AV.one,setArgs,bQ,bS,bJ,aR,aP,bK,TYC,hty,gm,k2,hm2,g2,nm',nm3,hw,k4,k5]
 have hG:Sta (CS++[[]]) CS.length ((gen d k en S (CS.length+1) 0).2.2++[⟨10,0⟩]) (gen d k en S (CS.length+1) 0).2.1=CS++(cZ (gen d) k en S CS.length).2:=by
  simp[Sta,cZ]
 rw[hG]at M5
 exact⟨h5,K,fv5,F5,w5,M5,((T1.trans T2).trans T4).trans T5⟩
end
end Go.Proofs.YtogjplcnmibnlaaGreatDoor.Env
