/- The tree's isOne and isName, walked. -/
import Derived.Test.YtogjplcnmibnlaaGreatDoorCTQ
import Derived.Test.YtogjplcnmibnlaaGreatDoorQE
set_option autoImplicit false
set_option maxRecDepth 100000
set_option maxHeartbeats 4000000
set_option linter.unusedSimpArgs false
set_option linter.unusedVariables false
namespace Go.Proofs.YtogjplcnmibnlaaGreatDoor.Lx
open Go.Ev Go.Proofs.YtogjplcnmibnlaaGreatDoor.Env
noncomputable abbrev pToks:=aW (pS (fun _=>true) toks)
theorem p59_ok:cJ Tryz.prog 120 pToks:=by
 refine pureL_ok env7_ok Tryz.func120 (by kernel_rfl) (by kernel_rfl) fun args v hv => ?_
 unfold pS at hv
 split at hv
 ·rename_i s
  simp only[cond_true,Option.some.injEq]at hv
  subst hv
  obtain⟨v',h1,e,h2,h3⟩:=toks_run s
  exact⟨_,h1,e,h2,h3⟩
 ·simp at hv
noncomputable def env10:Env:=bH env9 120 pToks
theorem env10_ok:dW Tryz.prog env10:=bD env9_ok p59_ok
theorem e10_59 (s:List Nat) (h:H):evL env10 120 [.str s] h=some (toks s,h):=pS_call (r:=toks) (q:=fun _=>true) (by kernel_rfl) h s rfl
theorem body44:Tryz.f99.body=some (aC Tryz.f99 []):=rfl
theorem one44_run (s name:List Nat) (k:Int) (hs:s.length<140737488355328) (hn:name.length<140737488355328):∃ h1,evL env10 99 [.str s,.str name,.int .i64 k] ⟨.e,0⟩=some (.bool (oneF s name k),h1):=by
 have hty:env10.ty=env.ty:=rfl
 have hpl:env10.plan=env.plan:=rfl
 have k59:=e10_59 s
 have hw:wr .i64 (Int.sub ↑s.length ↑name.length)=↑s.length-↑name.length:=wrI (by show _≤(↑s.length-↑name.length:Int);omega) (by show(↑s.length-↑name.length:Int)<_;omega)
 rw[bE env10 (by kernel_rfl) (by kernel_rfl) body44 _ _ rfl]
 unfold oneF
 unfold toks at k59
 have i70:aE 7 0=false:=rfl
 have i20:aE 2 0=false:=rfl
 have i00:aE 0 0=true:=rfl
 have i12:aE 1 2=false:=rfl
 have i22:aE 2 2=true:=rfl
 cases hb:ltI 2000 ↑s.length with
 | true=>
  rw[hb]at k59
  simp only[cond_true]at k59
  simp only[aC,sub,Tryz.f99]
  simp[EVT,aT,bC,aX,bA,bT,aL,aN,aG,aZ,val,aH,bN,bP,aU,setArgs,bQ,bS,bJ,aR,aP,bK,hty,k59,i70]
 | false=>
  rw[hb]at k59
  simp only[cond_false]at k59
  rcases hq:lx (s.length+1) s 0 []with ⟨l,_|j⟩
  ·rw[hq]at k59
   have hg:=lx_good _ _ _ _ (fun t ht=>by simp at ht) hq
   simp only at k59
   match l,hg with
   | [],_=>
    simp only[aC,sub,Tryz.f99]
    simp[EVT,aT,bC,aX,bA,bT,aL,aN,aQ,aG,aZ,val,aH,bN,bP,aU,setArgs,bQ,bS,bJ,aR,aP,bK,TYC,hty,k59,oneL,i00,i12]
   | [t],hg=>
    obtain⟨x1,x2,x3,x4,rfl⟩:=hg t (List.mem_singleton.2 rfl)
    have hee:aE (↑s.length:Int) ↑s.length=true:=intBeq_iff'.2 rfl
    simp only[endTok,fJ,List.cons_append,List.nil_append]at k59
    simp only[aC,sub,Tryz.f99]
    cases h1:aE x1 k<;>cases h2:aB x2 name<;>cases h3:aE x4 0<;>cases h4:ltI 2 (↑s.length-↑name.length)<;>simp[EVT,aT,bC,aX,bA,bT,aL,aN,aQ,aV,AV.cells,aG,aZ,val,aH,bN,bP,cP,aU,setArgs,bQ,bS,bJ,aR,aP,bK,TYC,hty,k59,oneL,tokOne,i00,i22,h1,h2,h3,h4,hee,hw]
   | t::u::r,hg=>
    have hlen:aE (↑(t::u::r++[endTok s]).length:Int) 2=false:=beqI_no (by simp;omega)
    have hlen':aE (↑r.length+1+1+1:Int) 2=false:=beqI_no (by omega)
    simp only[aC,sub,Tryz.f99]
    simp[EVT,aT,bC,aX,bA,bT,aL,aN,aQ,aG,aZ,val,aH,bN,bP,aU,setArgs,bQ,bS,bJ,aR,aP,bK,TYC,hty,k59,oneL,i00,hlen']
  ·rw[hq]at k59
   simp only[aC,sub,Tryz.f99]
   have:oneL s name k (l,some j)=false:=by cases l with|nil=>rfl|cons t l=>cases l<;>rfl
   simp[EVT,aT,bC,aX,bA,bT,aL,aN,aG,aZ,val,aH,bN,bP,aU,setArgs,bQ,bS,bJ,aR,aP,bK,hty,k59,this,i20]
end Go.Proofs.YtogjplcnmibnlaaGreatDoor.Lx
namespace Go.Proofs.YtogjplcnmibnlaaGreatDoor.Tr
open Go.Proofs.YtogjplcnmibnlaaGreatDoor.Env Go.Ev Go.Ev.Nd Go.Proofs.YtogjplcnmibnlaaGreatDoor.Lx
noncomputable abbrev pOne:=cF (eA (Rel3 (fun s n:Str=>fun _:Int=>s.s.length<140737488355328∧n.s.length<140737488355328) fun s n k=>oneF s.s n.s k))
theorem p44_ok:cJ Tryz.prog 99 pOne:=prim3_ok env10_ok (fn:=Tryz.f99) (by kernel_rfl) body44 (by kernel_rfl) fun s n k hq=>by
 obtain⟨h1,e⟩:=one44_run s.s n.s k hq.1 hq.2
 exact⟨.bool (oneF s.s n.s k),h1,cY (by kernel_rfl) (by kernel_rfl) body44 rfl e,by simp[AV.wk,Enc.enc]⟩
noncomputable abbrev pIsName:=cF (eA (Rel1 (fun s:Str=>s.s.length<140737488355328) fun s=>nameF s.s))
noncomputable abbrev e44:Env:=bH env 99 pOne
theorem p45_ok:cJ Tryz.prog 100 pIsName:=prim1_ok (bD env_ok p44_ok) (fn:=Tryz.f100) (by kernel_rfl) rfl (by kernel_rfl) fun s hs=>by
 have k44:∀ h,evL e44 99 [.str s.s,.str s.s,.int .i64 1] h=some (.bool (oneF s.s s.s 1),h):=fun h=>
  prim3_call (a:=s) (b:=s) (c:=(1:Int)) (F:=fun s n:Str=>fun k=>oneF s.s n.s k) (q:=fun s n:Str=>fun _:Int=>s.s.length<140737488355328∧n.s.length<140737488355328) (by kernel_rfl) (Enc.bare 0 s) (Enc.bare 0 s) (Enc.bare 0 (1:Int)) ⟨hs,hs⟩ h
 have hty:e44.ty=env.ty:=rfl
 have hpl:e44.plan=env.plan:=rfl
 rw[show(Enc.enc s:AV) = .str s.s from rfl,←one_name]
 unfold bodyL
 simp only[Tryz.f100]
 simp[EVT,aT,bC,aX,bA,bT,aL,aN,aG,aZ,val,aH,setArgs,bQ,bS,bJ,aR,k44,AV.wk,Enc.enc]
end Go.Proofs.YtogjplcnmibnlaaGreatDoor.Tr
namespace Go.Proofs.YtogjplcnmibnlaaGreatDoor.Tr
open Go.Proofs.YtogjplcnmibnlaaGreatDoor.Env Go.Ev Go.Ev.Nd Go.Proofs.YtogjplcnmibnlaaGreatDoor.Lx
structure Sha where
 a:Bool
 b:Bool
 l:Int
 k:Int
def Sha.av (s:Sha):AV := .agg [.bool s.a,.bool s.b,.int .i64 s.l,.int .i64 s.k]
instance:Enc Sha where
 enc:=Sha.av
 inj:=by
  rintro x ⟨a1,b1,l1,k1⟩ ⟨a2,b2,l2,k2⟩ h1 h2
  simp only[Sha.av]at h1 h2
  cases x with
  | ptr p=>cases p<;>simp[AV.wk]at h1
  | map p=>cases p<;>simp[AV.wk]at h1
  | agg cs=>
   rw[wk_agg]at h1 h2
   match cs,h1,h2 with
   | [c0,c1,c2,c3],h1,h2=>
    simp only[cK]at h1 h2
    obtain⟨x1,x2,x3,x4,_⟩:=h1
    obtain⟨y1,y2,y3,y4,_⟩:=h2
    have e1:a1=a2:=Enc.inj (α:=Bool) x1 y1
    have e2:b1=b2:=Enc.inj (α:=Bool) x2 y2
    have e3:l1=l2:=Enc.inj (α:=Int) x3 y3
    have e4:k1=k2:=Enc.inj (α:=Int) x4 y4
    rw[e1,e2,e3,e4]
   | [],h1,_=>exact absurd (cS.1 h1).1 (by simp)
   | [_],h1,_=>exact absurd (cS.1 h1).1 (by simp)
   | [_,_],h1,_=>exact absurd (cS.1 h1).1 (by simp)
   | [_,_,_],h1,_=>exact absurd (cS.1 h1).1 (by simp)
   | _::_::_::_::_::_,h1,_=>exact absurd (cS.1 h1).1 (by simp)
  | _=>simp[AV.wk]at h1
 bare:=fun n s=>by
  show(Sha.av s).wk n (Sha.av s)
  unfold Sha.av
  rw[wk_agg]
  simp[cK,AV.wk,wks_nil]
def namT (o p q:List Nat) (a b:Bool):Bool:=
 bif aB o strS then aB q []&&okT p
 else bif (bif a then !nameF p else !aB p [])then false
 else bif b then nameF q else aB q []
noncomputable abbrev pNamesT:=cF (eA (Rel2 (fun (t:Nd) (_:Sha)=>fit t) fun t s=>namT t.op t.name t.arg s.a s.b))
noncomputable abbrev e4445:Env:=bH e44 100 pIsName
theorem e4445_ok:dW Tryz.prog e4445:=bD (bD env_ok p44_ok) p45_ok
theorem body34:Tryz.f64.body=some (aC Tryz.f64 []):=rfl
theorem p34_ok:cJ Tryz.prog 64 pNamesT:=prim2_ok e4445_ok (fn:=Tryz.f64) (by kernel_rfl) body34 (by kernel_rfl) fun t s hf=>by
 obtain⟨o,p,q,n,a,ks⟩:=t
 obtain⟨sa,sb,sl,sk⟩:=s
 simp only[fit]at hf
 have k45p:∀ h,evL e4445 100 [.str p] h=some (.bool (nameF p),h):=fun h=>fG (a:=(⟨p⟩:Str)) (F:=fun s:Str=>nameF s.s) (q:=fun s:Str=>s.s.length<140737488355328) (by kernel_rfl) (Enc.bare 0 (⟨p⟩:Str)) (by have:=hf.2.1.1;show p.length<_;omega) h
 have k45q:∀ h,evL e4445 100 [.str q] h=some (.bool (nameF q),h):=fun h=>fG (a:=(⟨q⟩:Str)) (F:=fun s:Str=>nameF s.s) (q:=fun s:Str=>s.s.length<140737488355328) (by kernel_rfl) (Enc.bare 0 (⟨q⟩:Str)) (by have:=hf.2.2.1.1;show q.length<_;omega) h
 have k44:∀ h,evL e4445 99 [.str (34::(p++[34])),.str p,.int .i64 3] h=some (.bool (okT p),h):=fun h=>by
  rw[←one_text]
  exact prim3_call (a:=(⟨34::(p++[34])⟩:Str)) (b:=(⟨p⟩:Str)) (c:=(3:Int)) (F:=fun s n:Str=>fun k=>oneF s.s n.s k) (q:=fun s n:Str=>fun _:Int=>s.s.length<140737488355328∧n.s.length<140737488355328) (by kernel_rfl) (Enc.bare 0 _) (Enc.bare 0 _) (Enc.bare 0 (3:Int)) (by have:=hf.2.1.1;simp;omega) h
 have hle1:1+p.length≤140737488355328:=by have:=hf.2.1.1;omega
 have hle2:p.length+1+1≤140737488355328:=by have:=hf.2.1.1;omega
 have hty:e4445.ty=env.ty:=rfl
 have hpl:e4445.plan=env.plan:=rfl
 show ∃ v' h1,bodyL e4445 64 Tryz.f64 (aC Tryz.f64 []) [(Nd.mk o p q n a ks).av,(Sha.mk sa sb sl sk).av] ⟨.e,0⟩=some (v',h1)∧v'.wk 0 (.bool (namT o p q sa sb))
 unfold bodyL namT
 simp only[aC,sub,Tryz.f64,Nd.av,Sha.av]
 generalize nameF p=np at *
 generalize nameF q=nq at *
 generalize okT p=tp at *
 generalize hp0:aB p []=p0 at *
 generalize hq0:aB q []=q0 at *
 simp only[strS]
 cases ho:aB o [115,116,114]with
 | true=>cases q0<;>simp[EVT,aT,bC,aX,bA,bT,aL,aN,aQ,bX,aV,AV.cells,aG,aZ,val,aH,bN,bP,cP,aU,H.new,setArgs,bQ,bS,bJ,aR,aP,bK,TYC,hty,bytesOf,k44,hq0,ho,hle1,hle2,AV.wk]
 | false=>
  cases sa with
  | true=>cases np<;>cases sb<;>simp[EVT,aT,bC,aX,bA,bT,aL,aN,aQ,bX,aV,AV.cells,aG,aZ,val,aH,bN,bP,cP,aU,H.new,setArgs,bQ,bS,bJ,aR,aP,bK,TYC,hty,bytesOf,k45p,k45q,hq0,ho,AV.wk]
  | false=>cases p0<;>cases sb<;>simp[EVT,aT,bC,aX,bA,bT,aL,aN,aQ,bX,aV,AV.cells,aG,aZ,val,aH,bN,bP,cP,aU,H.new,setArgs,bQ,bS,bJ,aR,aP,bK,TYC,hty,bytesOf,k45q,hp0,hq0,ho,AV.wk]
end Go.Proofs.YtogjplcnmibnlaaGreatDoor.Tr
namespace Go.Proofs.YtogjplcnmibnlaaGreatDoor.Tr
open Go.Proofs.YtogjplcnmibnlaaGreatDoor.Env Go.Ev Go.Ev.Nd Go.Proofs.YtogjplcnmibnlaaGreatDoor.Lx
attribute [local simp] bC aX bA bT aL aN aQ bX bF bW dE cD aV AV.cells aG aZ val aH bN bP cP bG eI aU aO aM bY bI recheck H.new H.put cT aY bB AV.one setArgs bQ bS bJ aR aP bK
def shL:List (List Nat × Sha):=[
 ([105,110,116],⟨false,false,1000000000000000000,0⟩),([98,111,111,108],⟨false,false,2,0⟩),([117,110,105,116],⟨false,false,0,0⟩),([110,105,108],⟨false,false,0,0⟩),
 ([115,116,114],⟨true,false,0,0⟩),([118,97,114],⟨true,false,0,0⟩),([102,117,110],⟨true,false,0,1⟩),([108,101,116],⟨true,false,0,2⟩),([114,101,99],⟨true,true,0,2⟩),
 ([105,102],⟨false,false,0,3⟩),([109,97,116,99,104],⟨true,true,0,3⟩),([116,114,121],⟨true,false,0,2⟩),
 ([115,101,113],⟨false,false,0,2⟩),([115,101,116],⟨false,false,0,2⟩),([101,113],⟨false,false,0,2⟩),([108,101,115,115],⟨false,false,0,2⟩),([99,111,110,115],⟨false,false,0,2⟩),([97,100,100],⟨false,false,0,2⟩),([115,117,98],⟨false,false,0,2⟩),([99,97,116],⟨false,false,0,2⟩),([109,117,108],⟨false,false,0,2⟩),([97,112,112],⟨false,false,0,2⟩),([112,97,105,114],⟨false,false,0,2⟩),([108,105,110,107],⟨false,false,0,2⟩),
 ([114,97,105,115,101],⟨false,false,0,1⟩),([103,101,116],⟨false,false,0,1⟩),([102,115,116],⟨false,false,0,1⟩),([115,110,100],⟨false,false,0,1⟩),([114,101,102],⟨false,false,0,1⟩),([99,101,108,108],⟨false,false,0,1⟩),([116,97,103],⟨false,false,0,1⟩),([108,105,110,107,115],⟨false,false,0,1⟩),([115,105,122,101],⟨false,false,0,1⟩),([112,114,105,110,116],⟨false,false,0,1⟩)]
def esS (l:List (List Nat × Sha)):List (AV × AV):=l.map fun p=>(.str p.1,p.2.av)
def lookS (o:List Nat):List (List Nat × Sha)→Option Sha
 | []=>none
 | (k,s)::l=>bif aB o k then some s else lookS o l
theorem mapGet_shape (o:List Nat):∀ l:List (List Nat × Sha),mapGet (.str o) (esS l)=some ((lookS o l).map Sha.av)
 | []=>rfl
 | (k,s)::l=>by
  have:=mapGet_shape o l
  simp only[esS,List.map_cons,mapGet,keyCmp,lookS]at this ⊢
  cases aB o k with
  | true=>rfl
  | false=>exact this
noncomputable def hS (cs:List AV):H:=match cG env 200 37 [] ⟨T.e.set 0 (.cells cs),1⟩with
 | some (_,h)=>h
 | none=>⟨.e,0⟩
theorem hS_1 (cs:List AV):(hS cs).t.get 1=some (.map (esS shL)):=by kernel_rfl
theorem hS_0 (cs:List AV):(hS cs).t.get 0=some (.cells cs):=by kernel_rfl
theorem hS_n (cs:List AV):(hS cs).nx=2:=by kernel_rfl
def maxI (l:Int):Int:=bif ltI l 1 then 1 else l
mutual
def isT:Nd→Bool
 | .mk o p q n a ks=>match lookS o shL with
  | none=>false
  | some s=>namT o p q s.a s.b&&(!ltI n 0&&(ltI n (maxI s.l)&&(aE ↑ks.length s.k&&isTL ks)))
def isTL:List Nd→Bool
 | []=>true
 | t::l=>isT t&&isTL l
end
def Grow (h h':H):Prop:=h.nx≤h'.nx∧∀ j,j<h.nx→h'.t.get j=h.t.get j
theorem Grow.refl (h:H):Grow h h:=⟨Nat.le_refl _,fun _ _=>rfl⟩
theorem Grow.trans {a b c:H} (x:Grow a b) (y:Grow b c):Grow a c:=⟨Nat.le_trans x.1 y.1,fun j hj=>by rw[y.2 j (Nat.lt_of_lt_of_le hj x.1),x.2 j hj]⟩
theorem Grow.new (h:H) (o:Ev.Obj):Grow h ⟨h.t.set h.nx o,h.nx+1⟩:=⟨Nat.le_succ _,fun j hj=>by simp only[T.aA];rw[if_neg (by omega)]⟩
structure Sh (b m:Nat) (h:H):Prop where
 gb:h.t.get b=some (.cells [.map (some m)])
 gm:h.t.get m=some (.map (esS shL))
 lb:b<h.nx
 lm:m<h.nx
theorem Sh.grow {b m:Nat} {h h':H} (s:Sh b m h) (g:Grow h h'):Sh b m h':=⟨by rw[g.2 b s.lb];exact s.gb,by rw[g.2 m s.lm];exact s.gm,Nat.lt_of_lt_of_le s.lb g.1,Nat.lt_of_lt_of_le s.lm g.1⟩
noncomputable abbrev e34:Env:=bH (bH env 35 pSize) 64 pNamesT
theorem e34_ok:dW Tryz.prog e34:=bD (bD env_ok p12_ok) p34_ok
theorem body35:Tryz.f66.body=some (aC Tryz.f66 []):=rfl
theorem sub35 {b m:Nat} {t:Nd} (hc:∀ h,h.t.get m=some (.map (esS shL))→m<h.nx→∃ h',evL e34 36 [t.av,.map (some m)] h=some (.bool (isT t),h')∧Grow h h') (h:H) (s:Sh b m h) :
  ∃ h',evL e34 66 [t.av,.ptr (some (b,0))] h=some (.bool (!isT t),h')∧Grow h h':=by
 have hty:e34.ty=env.ty:=rfl
 have hpl:e34.plan=env.plan:=rfl
 have nb:¬ b=h.nx:=by have:=s.lb;omega
 have gn:=Grow.new h (.cells [.str t.op,.str t.name,.str t.arg,.int .i64 t.n,.int .i64 t.at_,.sl .no (avs t.kids)])
 obtain⟨h',e,g⟩:=hc ⟨h.t.set h.nx (.cells [.str t.op,.str t.name,.str t.arg,.int .i64 t.n,.int .i64 t.at_,.sl .no (avs t.kids)]),h.nx+1⟩ (s.grow gn).gm (s.grow gn).lm
 rw[bE e34 (by kernel_rfl) (by kernel_rfl) body35 _ _ rfl]
 simp only[aC,sub,Tryz.f66]
 rw[bZ t]at e ⊢
 refine⟨h',?_,gn.trans g⟩
 simp[EVT,aT,TYC,hty,s.gb,nb,e]
noncomputable def b36_0:Code:=aK Tryz.f101 0
theorem body36:Tryz.f101.body=some (.seq (aC Tryz.f101 [0]) (.seq (.seq (aC Tryz.f101 [1,0,0]) (.block 0 (.loop b36_0))) (aC Tryz.f101 [1,1]))):=rfl
theorem loop36 {b m d:Nat} {ks:List Nd} (hl:ks.length≤9223372036854775807) (hf:fits ks) (hd:deps ks≤d)
  (hc:∀ t h,dep t≤d→fit t→h.t.get m=some (.map (esS shL))→m<h.nx→∃ h',evL e34 36 [t.av,.map (some m)] h=some (.bool (isT t),h')∧Grow h h') :
  ∀ (l:List Nd) (i:Nat) {tm:Tm} {h:H} {x:Option (Ex × Tm × H)},cdL e34 101 19 (.loop b36_0) tm h=x→l=ks.drop i→i≤ks.length→Sh b m h →
  tm.get 0=some (.sl .no (avs ks))→tm.get 1=some (.fn 66 [] [.ptr (some (b,0))])→tm.get 7=some (.int .i64 ↑ks.length)→tm.get 8=some (.int .i64 ↑i) →
  ∃ tm' h',x=some (bif isTL l then .exit 0 else .ret,tm',h')∧Grow h h'∧(isTL l=false→∃ j:Nat,tm'.get 4=some (.int .i64 ↑j))
 | [],i,tm,h,x,hx,hd,hi,s,h0,h1,h7,h8=>by
  have hlen:=dnil hd hi
  obtain⟨R,hR,hx⟩:=aS hx
  simp[b36_0,aK,Tryz.f101,loops,EVT,lp,show e34.ty=env.ty from rfl,h7,h8,hlen,dZ]at hx
  exact⟨_,_,by rw[←hx];rfl,.refl _,by simp[isTL]⟩
 | t::l,i,tm,h,x,hx,hdr,hi,s,h0,h1,h7,h8=>by
  obtain⟨hlt,hct,hd'⟩:=gC hdr
  have hat:=cX hct
  have htm:=List.mem_of_getElem? hct
  obtain⟨R,hR,hx⟩:=aS hx
  have hlt':=eR hlt
  have hw:=cH (i:=i) (by omega)
  obtain⟨h1',e,g⟩:=sub35 (fun h=>hc t h (Nat.le_trans (dep_mem htm) hd) (fits_mem.1 hf t htm)) h s
  rw[bZ t]at hat e
  simp only[isTL]
  cases hb:isT t with
  | false=>
   simp[b36_0,aK,Tryz.f101,loops,EVT,TYC,lp,show e34.ty=env.ty from rfl,h0,h1,h7,h8,hlt',hat,e,hb]at hx
   exact⟨_,_,by rw[←hx];rfl,g,fun _=>⟨i,by simp[T.aA]⟩⟩
  | true=>
   simp[b36_0,aK,Tryz.f101,loops,EVT,TYC,lp,show e34.ty=env.ty from rfl,h0,h1,h7,h8,hlt',hat,e,hb,hw]at hx
   rw[hR]at hx
   simp only[Bool.true_and]
   obtain⟨tm',h',r1,r2,r3⟩:=loop36 hl hf hd hc l (i+1) hx hd' hlt (s.grow g) (by simp[T.aA,h0]) (by simp[T.aA,h1]) (by simp[T.aA,h7]) (by simp[T.aA])
   exact⟨tm',h',r1,g.trans r2,r3⟩
theorem body23:Tryz.f65.body=some (aC Tryz.f65 []):=rfl
theorem contains_run {b m d:Nat} {ks:List Nd} (hl:ks.length≤9223372036854775807) (hf:fits ks) (hd:deps ks≤d)
  (hc:∀ t h,dep t≤d→fit t→h.t.get m=some (.map (esS shL))→m<h.nx→∃ h',evL e34 36 [t.av,.map (some m)] h=some (.bool (isT t),h')∧Grow h h') (h:H) (s:Sh b m h) :
  ∃ h',evL e34 65 [.sl .no (avs ks),.fn 66 [] [.ptr (some (b,0))]] h=some (.bool (!isTL ks),h')∧Grow h h':=by
 have hty:e34.ty=env.ty:=rfl
 have hpl:e34.plan=env.plan:=rfl
 have hil:=avs_len ks
 have k36:∃ h' j,evL e34 101 [.sl .no (avs ks),.fn 66 [] [.ptr (some (b,0))]] h=some (.int .i64 j,h')∧Grow h h'∧ltI j 0=isTL ks:=by
  rw[bE e34 (by kernel_rfl) (by kernel_rfl) body36 _ _ rfl]
  simp only[aC,sub,Tryz.f101]
  simp[EVT,aT,TYC,hty,hil]
  generalize hx:cdL e34 101 19 (.loop b36_0) _ _=x
  obtain⟨tm',h',rfl,g,r⟩:=loop36 hl hf hd hc ks 0 hx rfl (Nat.zero_le _) s (by simp[T.aA]) (by simp[T.aA]) (by simp[T.aA]) (by simp[T.aA])
  cases hb:isTL ks with
  | true=>exact⟨h',-1,by simp[EVT],g,rfl⟩
  | false=>
   obtain⟨j,hj⟩:=r hb
   exact⟨h',↑j,by simp[hj],g,by rw[dI];simp⟩
 obtain⟨h',j,e,g,hj⟩:=k36
 rw[bE e34 (by kernel_rfl) (by kernel_rfl) body23 _ _ rfl]
 simp only[aC,sub,Tryz.f65]
 exact⟨h',by simp[EVT,aT,hty,e,hj],g⟩
def GrowT (h:H) (t:T Ev.Obj):Prop:=∀ j,j<h.nx→t.get j=h.t.get j
theorem GrowT.set {h:H} {t:T Ev.Obj} {k:Nat} {o:Ev.Obj} (hk:h.nx≤k) (g:GrowT h t):GrowT h (t.set k o):=fun j hj=>by
 simp only[T.aA]
 rw[if_neg (by omega)]
 exact g j hj
theorem Grow.of {h:H} {t:T Ev.Obj} {n:Nat} (hn:h.nx≤n) (g:GrowT h t):Grow h ⟨t,n⟩:=⟨hn,g⟩
theorem sh_iff {b m:Nat} {h:H}:Sh b m h↔h.t.get b=some (.cells [.map (some m)])∧h.t.get m=some (.map (esS shL))∧b<h.nx∧m<h.nx:=⟨fun s=>⟨s.gb,s.gm,s.lb,s.lm⟩,fun s=>⟨s.1,s.2.1,s.2.2.1,s.2.2.2⟩⟩
theorem body21:Tryz.f36.body=some (aC Tryz.f36 []):=rfl
theorem is_run {m:Nat}:∀ (d:Nat) (t:Nd) (h:H),dep t≤d→fit t→h.t.get m=some (.map (esS shL))→m<h.nx→∃ h',evL e34 36 [t.av,.map (some m)] h=some (.bool (isT t),h')∧Grow h h'
 | 0,t,h,hd,_,_,_=>by have:=dep_pos t;omega
 | d+1,t,h,hd,hf,gm,lm=>by
  have hty:e34.ty=env.ty:=rfl
  have hpl:e34.plan=env.plan:=rfl
  have k34:∀ (s:Sha) h,evL e34 64 [t.av,s.av] h=some (.bool (namT t.op t.name t.arg s.a s.b),h):=fun s h=>
   prim2_call (a:=t) (b:=s) (F:=fun (t:Nd) (s:Sha)=>namT t.op t.name t.arg s.a s.b) (q:=fun (t:Nd) (_:Sha)=>fit t) (by kernel_rfl) (Enc.bare 0 t) (Enc.bare 0 s) hf h
  obtain⟨o,p,q,n,a,ks⟩:=t
  simp only[dep]at hd
  simp only[fit]at hf
  obtain⟨F,hF⟩:∃ F:H→H,∀ g,Sh (h.nx+1) m g→evL e34 65 [.sl .no (avs ks),.fn 66 [] [.ptr (some (h.nx+1,0))]] g=some (.bool (!isTL ks),F g)∧Grow g (F g):=by
   have:=fun g (s:Sh (h.nx+1) m g)=>contains_run (b:=h.nx+1) (m:=m) hf.2.2.2.2.2.1 hf.2.2.2.2.2.2 (d:=d) (by omega) (fun t h a b c e=>is_run (m:=m) d t h a b c e) g s
   classical
   exact⟨fun g=>if s:Sh (h.nx+1) m g then(this g s).choose else g,fun g s=>by simp only[dif_pos s];exact(this g s).choose_spec⟩
  have k23:=fun g s=>(hF g s).1
  have hgr:=fun g s=>(hF g s).2
  have hmg:=mapGet_shape o shL
  have hil:=avs_len ks
  have n0:¬ m=h.nx:=by omega
  have n1:¬ m=h.nx+1:=by omega
  have n2:¬ m=h.nx+1+1:=by omega
  have e02:¬ h.nx=h.nx+1+1:=by omega
  have e12:¬ h.nx+1=h.nx+1+1:=by omega
  have e01:¬ h.nx=h.nx+1:=by omega
  have l3:m<h.nx+1+1+1:=by omega
  have m3:m<h.nx+3:=by omega
  have n2':¬ m=h.nx+2:=by omega
  simp only[isT]
  simp only[Nd.op,Nd.name,Nd.arg,Nd.av]at k34
  rw[bE e34 (by kernel_rfl) (by kernel_rfl) body21 _ _ rfl]
  simp only[aC,sub,Tryz.f36,Nd.av]
  cases hlk:lookS o shL with
  | none=>
   rw[hlk]at hmg
   simp only[Option.map_none]at hmg
   simp[EVT,aT,TYC,hty,keyOk,gm,n0,n1,hmg]
   exact .of (by omega) (.set (by omega) (.set (by omega) (.set (by omega) (.set (by omega) fun _ _=>rfl))))
  | some s=>
   obtain⟨sa,sb,sl,sk⟩:=s
   rw[hlk]at hmg
   simp only[Option.map_some,Sha.av]at hmg
   have k34':=k34 ⟨sa,sb,sl,sk⟩
   simp only[Sha.av]at k34'
   simp only
   cases h1:namT o p q sa sb with
   | false=>
    simp[EVT,aT,TYC,hty,keyOk,gm,n0,n1,e02,hmg,k34',h1]
    exact .of (by omega) (.set (by omega) (.set (by omega) (.set (by omega) (.set (by omega) fun _ _=>rfl))))
   | true=>
    cases h2:ltI n 0 with
    | true=>
     simp[EVT,aT,TYC,hty,keyOk,gm,n0,n1,e02,hmg,k34',h1,h2]
     exact .of (by omega) (.set (by omega) (.set (by omega) (.set (by omega) (.set (by omega) fun _ _=>rfl))))
    | false=>
     cases h3:ltI n (maxI sl)with
     | false=>
      have h3':=h3
      unfold maxI at h3'
      simp[EVT,aT,TYC,hty,keyOk,gm,n0,n1,e02,hmg,k34',h1,h2,h3']
      exact .of (by omega) (.set (by omega) (.set (by omega) (.set (by omega) (.set (by omega) fun _ _=>rfl))))
     | true=>
      have h3':=h3
      unfold maxI at h3'
      cases h4:aE ↑ks.length sk with
      | false=>
       simp[EVT,aT,TYC,hty,keyOk,gm,n0,n1,e02,hmg,k34',h1,h2,h3',hil,h4]
       exact .of (by omega) (.set (by omega) (.set (by omega) (.set (by omega) (.set (by omega) fun _ _=>rfl))))
      | true=>
       simp[EVT,aT,TYC,hty,keyOk,gm,n0,n1,n2,e02,hmg,k34',h1,h2,h3',hil,h4,k23,sh_iff,l3]
       refine Grow.trans ?_ (hgr _ ?_)
       ·exact .of (by omega) (.set (by omega) (.set (by omega) (.set (by omega) (.set (by omega) fun _ _=>rfl))))
       ·rw[sh_iff];simp[T.aA,gm,n0,n1,n2];omega
end Go.Proofs.YtogjplcnmibnlaaGreatDoor.Tr
namespace Go.Proofs.YtogjplcnmibnlaaGreatDoor.Tr
open Go.Proofs.YtogjplcnmibnlaaGreatDoor.Env Go.Ev Go.Ev.Nd Go.Proofs.YtogjplcnmibnlaaGreatDoor.Lx
theorem nn_zero (n:Int):aE n 0=(!ltI n 0&&ltI n 1):=by
 rw[Bool.eq_iff_iff,dN]
 simp only[Bool.and_eq_true,Bool.not_eq_true',dI,decide_eq_true_eq,decide_eq_false_iff_not]
 omega
theorem nn_bool (n:Int):(aE n 0||aE n 1)=(!ltI n 0&&ltI n 2):=by
 rw[Bool.eq_iff_iff,Bool.or_eq_true,dN,dN]
 simp only[Bool.and_eq_true,Bool.not_eq_true',dI,decide_eq_true_eq,decide_eq_false_iff_not]
 omega
theorem nn_int (n:Int):(!ltI n 0 && !ltI 999999999999999999 n)=(!ltI n 0&&ltI n 1000000000000000000):=by
 rw[Bool.eq_iff_iff]
 simp only[Bool.and_eq_true,Bool.not_eq_true',dI,decide_eq_true_eq,decide_eq_false_iff_not]
 omega
structure SOk (o:List Nat) (s:Sha):Prop where
 k:dS o=s.k
 p:∀ p q,namT o p q s.a s.b=(namA o p&&namB o q)
 n:∀ n,namN o n=(!ltI n 0&&ltI n (maxI s.l))
theorem sok_all:∀ e∈shL,SOk e.1 e.2:=by
 have A:∀ (x y:Bool),(bif !x then false else y)=(x&&y):=by intro x y;cases x<;>rfl
 have B:∀ (x y:Bool),(x&&y)=(y&&x):=by intro x y;cases x<;>cases y<;>rfl
 simp only[shL,List.mem_cons,List.not_mem_nil,or_false,forall_eq_or_imp,forall_eq]
 refine⟨?_,?_,?_,?_,?_,?_,?_,?_,?_,?_,?_,?_,?_,?_,?_,?_,?_,?_,?_,?_,?_,?_,?_,?_,?_,?_,?_,?_,?_,?_,?_,?_,?_,?_⟩
 case refine_1=>exact⟨rfl,fun p q=>A _ _,fun n=>nn_int n⟩
 case refine_2=>exact⟨rfl,fun p q=>A _ _,fun n=>nn_bool n⟩
 case refine_5=>exact⟨rfl,fun p q=>B _ _,fun n=>nn_zero n⟩
 all_goals exact⟨rfl,fun p q=>A _ _,fun n=>nn_zero n⟩
theorem lookS_mem {o:List Nat}:∀ {l:List (List Nat × Sha)} {s:Sha},lookS o l=some s→(o,s)∈l
 | (k,u)::l,s,h=>by
  simp only[lookS]at h
  cases hb:aB o k with
  | true=>rw[hb]at h;simp only[cond_true,Option.some.injEq]at h;rw[Go.Ev.cU.1 hb,h];exact List.mem_cons_self ..
  | false=>rw[hb]at h;exact List.mem_cons_of_mem _ (lookS_mem h)
theorem lookS_none {o:List Nat}:∀ {l:List (List Nat × Sha)},lookS o l=none→∀ x∈l.map Prod.fst,aB o x=false
 | [],_,x,hx=>by simp at hx
 | (k,u)::l,h,x,hx=>by
  simp only[lookS]at h
  cases hb:aB o k with
  | true=>rw[hb]at h;simp at h
  | false=>
   rw[hb]at h
   rcases List.mem_cons.1 hx with rfl|hx
   ·exact hb
   ·exact lookS_none h x hx
theorem inO_none {o:List Nat} (h:lookS o shL=none) {l:List (List Nat)} (hl:∀ x∈l,x∈shL.map Prod.fst):inO o l=false:=by
 unfold inO
 rw[List.any_eq_false]
 intro x hx
 rw[lookS_none h x (hl x hx)]
 simp
theorem kids_none {o:List Nat} (h:lookS o shL=none):dS o = -1:=by
 unfold dS
 rw[inO_none h (l:=ops0) (by decide),inO_none h (l:=ops1) (by decide),inO_none h (l:=ops2) (by decide),inO_none h (l:=ops3) (by decide)]
 rfl
theorem intBeq_comm (a b:Int):aE a b=aE b a:=by rw[Bool.eq_iff_iff,dN,dN];exact eq_comm
mutual
theorem isT_each:∀ t:Nd,isT t=eachF t
 | .mk o p q n a ks=>by
  simp only[isT,eachF]
  cases h:lookS o shL with
  | none=>
   rw[kids_none h]
   have:aE (-1) ↑ks.length=false:=by cases hb:aE (-1) (↑ks.length:Int)with|false=>rfl|true=>rw[dN]at hb;omega
   rw[this,Bool.false_and]
  | some s=>
   have k:=sok_all (o,s) (lookS_mem h)
   simp only at k
   simp only
   unfold namesR
   simp only[Nd.op,Nd.name,Nd.arg,Nd.n]
   rw[k.k,k.p,k.n,isTL_each ks,intBeq_comm]
   cases namA o p<;>cases namB o q<;>cases ltI n 0<;>cases ltI n (maxI s.l)<;>cases aE s.k ↑ks.length<;>rfl
theorem isTL_each:∀ l:List Nd,isTL l=eachL l
 | []=>rfl
 | t::l=>by rw[isTL,eachL,isT_each t,isTL_each l]
end
theorem shapes_e34 (cs:List AV):evL e34 37 [] ⟨T.e.set 0 (.cells cs),1⟩=some (.map (some 1),hS cs):=eJ e34 (k:=200) (by kernel_rfl)
noncomputable abbrev pIsT:=cF (eA (Rel1 fit isR))
theorem p9_ok:cJ Tryz.prog 19 pIsT:=prim1_ok e34_ok (fn:=Tryz.f19) (by kernel_rfl) rfl (by kernel_rfl) fun t hf=>by
 have k12:∀ h,evL e34 35 [t.av] h=some (.int .i64 (sizeF t),h):=fun h=>fG (a:=t) (F:=sizeF) (q:=fit) (by kernel_rfl) (Enc.bare 0 t) hf h
 have hty:e34.ty=env.ty:=rfl
 have hpl:e34.plan=env.plan:=rfl
 have k22:=fun cs=>shapes_e34 cs
 obtain⟨h',k21,_⟩:=is_run (m:=1) (dep t) t (hS [.str t.op,.str t.name,.str t.arg,.int .i64 t.n,.int .i64 t.at_,.sl .no (avs t.kids)]) (Nat.le_refl _) hf (hS_1 _) (by rw[hS_n];omega)
 have hg:=hS_0 [.str t.op,.str t.name,.str t.arg,.int .i64 t.n,.int .i64 t.at_,.sl .no (avs t.kids)]
 rw[isT_each]at k21
 rw[show(Enc.enc t:AV)=t.av from rfl]
 unfold isR
 rw[bZ t]at k12 k21 ⊢
 generalize sizeF t=k at *
 generalize eachF t=e at *
 unfold bodyL
 simp only[Tryz.f19]
 cases hb:ltI 2000 k with
 | true=>simp[EVT,aT,bC,aX,bA,bT,aL,aN,aQ,bX,aV,AV.cells,aG,aZ,val,aH,bN,bP,aU,bI,recheck,H.new,setArgs,bQ,bS,bJ,aR,aP,bK,TYC,hty,hpl,k12,hb,AV.wk,Enc.enc]
 | false=>simp[EVT,aT,bC,aX,bA,bT,aL,aN,aQ,bX,aV,AV.cells,aG,aZ,val,aH,bN,bP,aU,bI,recheck,H.new,setArgs,bQ,bS,bJ,aR,aP,bK,TYC,hty,hpl,k12,hb,k22,k21,hg,AV.wk,Enc.enc]
end Go.Proofs.YtogjplcnmibnlaaGreatDoor.Tr
namespace Go.Proofs.YtogjplcnmibnlaaGreatDoor.Ly
open Go.Ev Go.Proofs.YtogjplcnmibnlaaGreatDoor.Env Go.Proofs.YtogjplcnmibnlaaGreatDoor.Lx
attribute [local simp] bC aX bA bT aL aN aQ bX bF bW dE cD aV AV.cells aG aZ val aH bN bP cP bG eI aU aO aM bY bI recheck H.new H.put cT aY bB AV.one setArgs bQ bS bJ aR aP bK
noncomputable def b28_0:Code:=aK Tryz.f90 0
theorem body28:Tryz.f90.body=some (.seq (aC Tryz.f90 [0]) (.seq (aC Tryz.f90 [1,0]) (.seq (.seq (aC Tryz.f90 [1,1,0,0]) (.block 0 (.loop b28_0))) (aC Tryz.f90 [1,1,1])))):=rfl
theorem loop28 {s:List Nat} {ws:List (List Nat)} (hl:ws.length<4611686018427387904):∀ (l:List (List Nat)) (i:Nat) {tm:Tm} {h:H} {x:Option (Ex × Tm × H)},cdL env7 90 38 (.loop b28_0) tm h=x→l=ws.drop i→i≤ws.length →
  tm.get 0=some (.str s)→tm.get 3=some (.sl .full (ws.map .str))→tm.get 4=some (.int .i64 ↑i)→∃ tm',x=some (match fQ s l with|none => .exit 0|some _ => .ret,tm',h)∧(∀ w,fQ s l=some w→tm'.get 2=some (.str w))
 | [],i,tm,h,x,hx,hd,hi,h0,h3,h4=>by
  have hlen:=dnil hd hi
  obtain⟨R,hR,hx⟩:=aS hx
  simp[b28_0,aK,Tryz.f90,loops,EVT,TYC,TYQ,lp,e7ty,h3,h4,hlen,dZ]at hx
  exact⟨_,by rw[←hx];rfl,by simp[fQ]⟩
 | w::l,i,tm,h,x,hx,hd,hi,h0,h3,h4=>by
  obtain⟨hlt,hc,hd'⟩:=gC hd
  obtain⟨R,hR,hx⟩:=aS hx
  have hlt':=eR hlt
  have hw:=cH (i:=i) (by omega)
  have hpre:preF s w=(!ltI ↑s.length ↑w.length&&aB (s.take w.length) w):=rfl
  cases h1:ltI ↑s.length ↑w.length with
  | true=>
   simp[b28_0,aK,Tryz.f90,loops,EVT,TYC,TYQ,lp,e7ty,e7pl,h0,h3,h4,hlt',hc,h1,hw]at hx
   rw[hR]at hx
   simp only[fQ,hpre,h1,Bool.not_true,Bool.false_and,cond_false]
   exact loop28 hl l (i+1) hx hd' hlt (by simp[T.aA,h0]) (by simp[T.aA,h3]) (by simp[T.aA])
  | false=>
   have hle:w.length≤s.length:=by rw[eN]at h1;simpa using h1
   cases h2:aB (s.take w.length) w with
   | true=>
    simp[b28_0,aK,Tryz.f90,loops,EVT,TYC,TYQ,lp,e7ty,e7pl,h0,h3,h4,hlt',hc,h1,h2,hle]at hx
    simp only[fQ,hpre,h1,h2,Bool.not_false,Bool.and_self,cond_true]
    exact⟨_,by rw[←hx],by simp[T.aA]⟩
   | false=>
    simp[b28_0,aK,Tryz.f90,loops,EVT,TYC,TYQ,lp,e7ty,e7pl,h0,h3,h4,hlt',hc,h1,h2,hle,hw]at hx
    rw[hR]at hx
    simp only[fQ,hpre,h1,h2,Bool.not_false,Bool.true_and,cond_false]
    exact loop28 hl l (i+1) hx hd' hlt (by simp[T.aA,h0]) (by simp[T.aA,h3]) (by simp[T.aA])
def sgn (s:List Nat):List Nat:=match fQ s fB with|none=>[]|some w=>w
theorem rsign_run (s:List Nat):∃ h1,evL env7 90 [.str s] ⟨.e,0⟩=some (.str (sgn s),h1):=by
 rw[bE env7 (by kernel_rfl) (by kernel_rfl) body28 _ _ rfl]
 simp only[aC,sub,Tryz.f90]
 simp[EVT,aT,TYC,TYQ,e7ty]
 generalize hx:cdL env7 90 38 (.loop b28_0) _ _=x
 obtain⟨tm',rfl,g⟩:=loop28 (s:=s) (ws:=fB) (by decide) fB 0 hx rfl (by decide) (by simp[T.aA]) (by simp[T.aA];rfl) (by simp[T.aA])
 unfold sgn
 cases hb:fQ s fB with
 | none=>simp[EVT];rfl
 | some w=>simp[g w hb]
noncomputable def env8b:Env:=bH env8 90 (aW (pS lenOk fun s => .str (sgn s)))
theorem env8b_ok:dW Tryz.prog env8b:=bD env8_ok (pS_ok env7_ok Tryz.func90 (by kernel_rfl) (by kernel_rfl) fun s h=>⟨rsign_run s,rfl,rfl⟩)
noncomputable def b26_0:Code:=aK Tryz.f88 0
theorem body26:Tryz.f88.body=some (.seq (aC Tryz.f88 [0]) (.seq (aC Tryz.f88 [1,0]) (.seq (aC Tryz.f88 [1,1,0]) (.seq (.block 0 (.loop b26_0)) (aC Tryz.f88 [1,1,1,1]))))):=rfl
def rv:Nat→List Nat→Int→Int
 | _,[],v=>v
 | n,c::l,v=>bif cV ↑c then rv (n+1) l (bif ltI ↑n 18 then stepF v c else v)else v
theorem loop26 {s:List Nat} (hl:s.length<4611686018427387904):∀ (l:List Nat) (i:Nat) (v:Int) {tm:Tm} {h:H} {x:Option (Ex × Tm × H)},cdL env8 88 43 (.loop b26_0) tm h=x→l=s.drop i→i≤s.length →
  tm.get 0=some (.str s)→tm.get 4=some (.int .i64 ↑i)→tm.get 5=some (.int .i64 v)→∃ tm',x=some (.exit 0,tm',h)∧tm'.get 0=some (.str s)∧tm'.get 2=tm.get 2∧tm'.get 4=some (.int .i64 ↑(i+cnt cV l))∧tm'.get 5=some (.int .i64 (rv i l v))
 | [],i,v,tm,h,x,hx,hd,hi,h0,h4,h5=>by
  have hlen:=dnil hd hi
  obtain⟨R,hR,hx⟩:=aS hx
  simp[b26_0,aK,Tryz.f88,loops,EVT,TYC,TYQ,lp,e8ty,h0,h4,hlen,dZ]at hx
  exact⟨_,by rw[←hx],by simp[T.aA,h0],by simp[T.aA],by simp[T.aA,cnt,h4],by simp[T.aA,h5,rv]⟩
 | c::l,i,v,tm,h,x,hx,hd,hi,h0,h4,h5=>by
  obtain⟨hlt,hc,hd'⟩:=gC hd
  obtain⟨R,hR,hx⟩:=aS hx
  have hlt':=eR hlt
  have hw:=cH (i:=i) (by omega)
  cases h1:cV ↑c with
  | false=>
   simp[b26_0,aK,Tryz.f88,loops,EVT,TYC,TYQ,lp,e8ty,e8_25,h0,h4,hlt',hc,h1]at hx
   exact⟨_,by rw[←hx],by simp[T.aA,h0],by simp[T.aA],by simp[T.aA,h4,cnt,h1],by simp[T.aA,h5,rv,h1]⟩
  | true=>
   cases h2:ltI ↑i 18 with
   | true=>
    simp[b26_0,aK,Tryz.f88,loops,EVT,TYC,TYQ,lp,e8ty,e8_25,h0,h4,h5,hlt',hc,h1,h2,hw,isub]at hx
    rw[hR]at hx
    obtain⟨tm',g0,g1,g2,g3,g4⟩:=loop26 hl l (i+1) (stepF v c) hx hd' hlt (by simp[T.aA,h0]) (by simp[T.aA]) (by simp[T.aA,stepF,Int.mul_comm])
    exact⟨tm',g0,g1,by rw[g2];simp[T.aA],by rw[g3];simp[cnt,h1,Nat.add_assoc,Nat.add_comm 1],by rw[g4];simp[rv,h1,h2]⟩
   | false=>
    simp[b26_0,aK,Tryz.f88,loops,EVT,TYC,TYQ,lp,e8ty,e8_25,h0,h4,h5,hlt',hc,h1,h2,hw,isub]at hx
    rw[hR]at hx
    obtain⟨tm',g0,g1,g2,g3,g4⟩:=loop26 hl l (i+1) v hx hd' hlt (by simp[T.aA,h0]) (by simp[T.aA]) (by simp[T.aA,h5])
    exact⟨tm',g0,g1,by rw[g2];simp[T.aA],by rw[g3];simp[cnt,h1,Nat.add_assoc,Nat.add_comm 1],by rw[g4];simp[rv,h1,h2]⟩
def rnum (s:List Nat):AV:=bif numBad s 0 (cnt cV s)then .tup [fJ 0 [] 0 0,.int .i64 0]else .tup [fJ 2 [] (rv 0 s 0) 0,.int .i64 ↑(cnt cV s)]
theorem rnum_run (s:List Nat) (hl:s.length<140737488355328) (hs:0<s.length):∃ h1,evL env8 88 [.str s] ⟨.e,0⟩=some (rnum s,h1):=by
 rw[bE env8 (by kernel_rfl) (by kernel_rfl) body26 _ _ rfl]
 simp only[aC,sub,Tryz.f88]
 simp[EVT,aT,TYC,TYQ,e8ty]
 generalize hx:cdL env8 88 43 (.loop b26_0) _ _=x
 obtain⟨tm',rfl,g0,g2,g4,g5⟩:=loop26 (s:=s) (by omega) s 0 0 hx rfl (Nat.zero_le _) (by simp[T.aA]) (by simp[T.aA]) (by simp[T.aA])
 simp[T.aA]at g2 g4
 obtain⟨c,hc⟩:∃ c,s[0]?=some c:=⟨_,List.getElem?_eq_getElem hs⟩
 unfold rnum numBad
 rw[hc]
 simp only
 generalize hm:cnt cV s=m at *
 cases h1:ltI 18 ↑m<;>cases h2:ltI 1 ↑m<;>cases h3:aE ↑c 48<;>simp[EVT,g0,g2,g4,g5,h1,h2,h3,hc,fJ]
noncomputable def b27_0:Code:=aK Tryz.f89 0
theorem body27:Tryz.f89.body=some (.seq (aC Tryz.f89 [0]) (.seq (aC Tryz.f89 [1,0]) (.seq (.block 0 (.loop b27_0)) (aC Tryz.f89 [1,1,1])))):=rfl
def pNq (c:Int):Bool := !aE c 34
theorem loop27 {s:List Nat} (hl:s.length<4611686018427387904):∀ (l:List Nat) (i:Nat) {tm:Tm} {h:H} {x:Option (Ex × Tm × H)},cdL env8 89 35 (.loop b27_0) tm h=x→l=s.drop i→i≤s.length →
  tm.get 0=some (.str s)→tm.get 4=some (.int .i64 ↑i)→∃ tm',x=some (.exit 0,tm',h)∧tm'.get 0=some (.str s)∧tm'.get 2=tm.get 2∧tm'.get 4=some (.int .i64 ↑(i+cnt pNq l))
 | [],i,tm,h,x,hx,hd,hi,h0,h4=>by
  have hlen:=dnil hd hi
  obtain⟨R,hR,hx⟩:=aS hx
  simp[b27_0,aK,Tryz.f89,loops,EVT,TYC,TYQ,lp,e8ty,h0,h4,hlen,dZ]at hx
  exact⟨_,by rw[←hx],by simp[T.aA,h0],by simp[T.aA],by simp[T.aA,cnt,h4]⟩
 | c::l,i,tm,h,x,hx,hd,hi,h0,h4=>by
  obtain⟨hlt,hc,hd'⟩:=gC hd
  obtain⟨R,hR,hx⟩:=aS hx
  have hlt':=eR hlt
  have hw:=cH (i:=i) (by omega)
  cases h1:aE ↑c 34 with
  | true=>
   simp[b27_0,aK,Tryz.f89,loops,EVT,TYC,TYQ,lp,e8ty,h0,h4,hlt',hc,h1]at hx
   exact⟨_,by rw[←hx],by simp[T.aA,h0],by simp[T.aA],by simp[T.aA,h4,cnt,pNq,h1]⟩
  | false=>
   simp[b27_0,aK,Tryz.f89,loops,EVT,TYC,TYQ,lp,e8ty,h0,h4,hlt',hc,h1,hw]at hx
   rw[hR]at hx
   obtain⟨tm',g0,g1,g2,g3⟩:=loop27 hl l (i+1) hx hd' hlt (by simp[T.aA,h0]) (by simp[T.aA])
   exact⟨tm',g0,g1,by rw[g2];simp[T.aA],by rw[g3];simp[cnt,pNq,h1,Nat.add_assoc,Nat.add_comm 1]⟩
def rquo (s:List Nat):AV:=
 let n:=1+cnt pNq s.tail
 bif aE ↑n ↑s.length || !okT (s.tail.take (n-1))then .tup [fJ 0 [] 0 0,.int .i64 0]else .tup [fJ 3 (s.tail.take (n-1)) 0 0,.int .i64 (↑n+1)]
theorem rquo_run (s:List Nat) (hl:s.length<140737488355328) (hs:0<s.length):∃ h1,evL env8 89 [.str s] ⟨.e,0⟩=some (rquo s,h1):=by
 rw[bE env8 (by kernel_rfl) (by kernel_rfl) body27 _ _ rfl]
 simp only[aC,sub,Tryz.f89]
 simp[EVT,aT,TYC,TYQ,e8ty]
 generalize hx:cdL env8 89 35 (.loop b27_0) _ _=x
 obtain⟨tm',rfl,g0,g2,g4⟩:=loop27 (s:=s) (by omega) (s.drop 1) 1 hx rfl hs (by simp[T.aA]) (by simp[T.aA])
 simp[T.aA]at g2
 have hn:=cnt_le pNq s.tail
 rw[List.length_tail]at hn
 rw[List.drop_one]at g4
 unfold rquo
 simp only
 generalize hm:1+cnt pNq s.tail=m at *
 have hm1:m≤s.length:=by omega
 have hm2:1≤m:=by omega
 have ht:lenOk (s.tail.take (m-1))=true:=lenOk_iff.2 (by simp;omega)
 have w1:=fun h=>e8_37 h _ ht
 have hw:=cH (i:=m) (by omega)
 cases h1:aE ↑m ↑s.length<;>cases h2:okT (s.tail.take (m-1))<;>simp[EVT,TYC,TYQ,g0,g2,g4,hm1,hm2,w1,h1,h2,hw,fJ]
end Go.Proofs.YtogjplcnmibnlaaGreatDoor.Ly
