/- A token by the program is a token by the reference. -/
import Derived.Test.YtogjplcnmibnlaaGreatDoorCTRLx
import Derived.Test.YtogjplcnmibnlaaGreatDoorCTH
set_option autoImplicit false
set_option maxRecDepth 100000
set_option linter.unusedSimpArgs false
set_option linter.unusedVariables false
set_option maxHeartbeats 2000000
namespace Go.Proofs.YtogjplcnmibnlaaGreatDoor.Lx
open Go.Ev Go.Proofs.YtogjplcnmibnlaaGreatDoor.Env
theorem cnt_take (q:Int→Bool):∀ l:List Nat,(l.take (cnt q l)).all (fun c=>q ↑c)=true
 | []=>rfl
 | c::l=>by
  cases hq:q ↑c with
  | false=>simp[cnt,hq]
  | true=>simp[cnt,hq];simpa using cnt_take q l
theorem cnt_at {q:Int→Bool}:∀ {l:List Nat} {c:Nat},l[cnt q l]?=some c→q ↑c=false
 | [],c,h=>by simp[cnt]at h
 | a::l,c,h=>by
  cases hq:q ↑a with
  | false=>simp[cnt,hq]at h;rw[←h];exact hq
  | true=>simp[cnt,hq]at h;exact cnt_at h
theorem cnt_is {q:Int→Bool}:∀ {l:List Nat} {m c:Nat},(l.take m).all (fun c=>q ↑c)=true→l[m]?=some c→q ↑c=false→cnt q l=m
 | [],m,c,_,h,_=>by simp at h
 | a::l,0,c,_,h,hc=>by simp at h;subst h;simp[cnt,hc]
 | a::l,m+1,c,h1,h,hc=>by
  simp at h1 h
  have:=cnt_is (l:=l) (m:=m) (by simpa using h1.2) h hc
  simp[cnt,h1.1,this]
theorem cU {a b:List Nat}:aB a b=true↔a=b:=by
 constructor
 ·induction a generalizing b with
  | nil=>cases b<;>simp[aB]
  | cons x a ih=>
   cases b with
   | nil=>simp[aB]
   | cons y b=>
    simp only[aB,Bool.and_eq_true]
    rintro⟨h1,h2⟩
    rw[Nat.eq_of_beq_eq_true h1,ih h2]
 ·rintro rfl;exact natsBeq_refl a
theorem idxF_neg {v:List Nat}:∀ {l:List (List Nat)} (i:Nat),ltI (idxF v l i) 0 = !(l.any (aB · v))
 | [],i=>by simp[idxF];rfl
 | w::l,i=>by
  have hsym:aB v w=aB w v:=by
   cases h:aB w v with
   | true=>rw[cU.1 h];exact natsBeq_refl v
   | false=>
    cases h2:aB v w with
    | false=>rfl
    | true=>rw[cU.1 h2,natsBeq_refl]at h;simp at h
  simp only[idxF,List.any_cons]
  cases h:aB v w with
  | true=>
   rw[hsym]at h
   simp[h]
   exact dZ (a:=i) (b:=0) (Nat.zero_le _)
  | false=>
   rw[hsym]at h
   simp only[cond_false,h,Bool.false_or]
   exact idxF_neg (i+1)
theorem hasF_isW (v:List Nat):hasF v wordsL=isW v:=by simp[hasF,idxF_neg,isW]
theorem isW_len {v:List Nat} (h:isW v=true):v.length≤12:=by
 obtain⟨w,hw,hb⟩:=List.any_eq_true.1 h
 rw[←cU.1 hb]
 have:∀ w∈wordsL,w.length≤12:=by decide
 exact this w hw
end Go.Proofs.YtogjplcnmibnlaaGreatDoor.Lx
namespace Go.Proofs.YtogjplcnmibnlaaGreatDoor.Lx
open Go.Ev Go.Proofs.YtogjplcnmibnlaaGreatDoor.Env
attribute [local simp] bC aX bA bT aL aN aQ bX bF bW dE cD aV AV.cells aG aZ val aH bN bP cP bG eI aU aO aM bY bI recheck H.new H.put cT aY bB AV.one setArgs bQ bS bJ aR aP bK
def isTk (v:AV):Prop:=∃ (x1:Int) (x2:List Nat) (x3 x4 n:Int),v = .tup [.agg [.int .i64 x1,.str x2,.int .i64 x3,.int .i64 x4],.int .i64 n]
theorem rname_tk (s:List Nat):isTk (rname s):=by
 unfold rname
 simp only
 generalize 1+cnt dR (s.drop 1)=n
 cases isW (s.take n)<;>cases ltI 12 ↑n<;>exact⟨_,_,_,_,_,rfl⟩
theorem isTk_pure {v:AV} (h:isTk v):v.pure=true∧v.forget=v:=by
 obtain⟨x1,x2,x3,x4,n,rfl⟩:=h
 exact⟨rfl,rfl⟩
def lenPos (s:List Nat):Bool:=lenOk s&&Nat.blt 0 s.length
theorem fK {s:List Nat}:lenPos s=true↔s.length<140737488355328∧0<s.length:=by simp[lenPos,lenOk,blt_dec]
theorem p58_ok:cJ Tryz.prog 86 (aW (pS lenPos rname)):=pS_ok env8_ok Tryz.func86 (by kernel_rfl) (by kernel_rfl) fun s hs=>⟨rname_run s (fK.1 hs).1 (fK.1 hs).2,(isTk_pure (rname_tk s)).1,(isTk_pure (rname_tk s)).2⟩
noncomputable def env9:Env:=bH env8 86 (aW (pS lenPos rname))
theorem env9_ok:dW Tryz.prog env9:=bD env8_ok p58_ok
def nameF (s:List Nat):Bool:=match s with
 | []=>false
 | c::l=>dH ↑c&&(!isW ((c::l).take (1+cnt dR l))&&(!ltI 12 ↑(1+cnt dR l)&&aE ↑(1+cnt dR l) ↑(c::l).length))
theorem intBeq_iff' {a b:Int}:aE a b=true↔a=b:=by cases a<;>cases b<;>simp[aE]<;>omega
theorem body42:Tryz.f97.body=some (aC Tryz.f97 []):=rfl
theorem name42_run (s:List Nat) (hs:lenOk s=true):∃ h1,evL env9 97 [.str s] ⟨.e,0⟩=some (.bool (nameF s),h1):=by
 have hty:env9.ty=env.ty:=rfl
 have hpl:env9.plan=env.plan:=rfl
 rw[bE env9 (by kernel_rfl) (by kernel_rfl) body42 _ _ rfl]
 cases s with
 | nil=>
  simp only[aC,sub,Tryz.f97]
  simp[EVT,aT,TYC,hty,nameF,aE]
 | cons c l=>
  have k57:∀ c h,evL env9 85 [.int .u8 c] h=some (.bool (dH c),h):=fun c h=>by
   rw[evL_prim env9 (f:=85) (p:=aW (pI dH)) (by kernel_rfl)];rfl
  have k58:∀ h,evL env9 86 [.str (c::l)] h=some (rname (c::l),h):=fun h=>pS_call (r:=rname) (by kernel_rfl) h _ (fK.2 ⟨lenOk_iff.1 hs,by simp⟩)
  have hz:aE (↑(l.length+1):Int) 0=false:=by cases hb:aE (↑(l.length+1):Int) 0 with|false=>rfl|true=>rw[intBeq_iff']at hb;omega
  have i41:aE 4 1=false:=rfl
  have i11:aE 1 1=true:=rfl
  have i01:aE 0 1=false:=rfl
  have hz':aE (↑l.length+1:Int) 0=false:=by simpa using hz
  simp only[nameF]
  unfold rname at k58
  simp only[List.drop_succ_cons,List.drop_zero]at k58
  have hcl:cnt dR l≤l.length:=cnt_le dR l
  generalize 1+cnt dR l=n at *
  have hnl:aE (0:Int) (↑l.length+1)=false:=by cases hb:aE (0:Int) (↑l.length+1)with|false=>rfl|true=>rw[intBeq_iff']at hb;omega
  cases h1:dH ↑c with
  | false=>
   simp only[aC,sub,Tryz.f97]
   simp[EVT,aT,TYC,hty,hz',k57,h1]
  | true=>
   cases h2:isW ((c::l).take n)with
   | true=>
    rw[h2]at k58
    simp only[cond_true,fJ]at k58
    simp only[aC,sub,Tryz.f97]
    cases h4:aE (↑n:Int) (↑l.length+1)<;>simp[EVT,aT,TYC,hty,k57,k58,h1,h4,i41,hz']
   | false=>
    rw[h2]at k58
    cases h3:ltI 12 ↑n with
    | true=>
     rw[h3]at k58
     simp only[cond_true,cond_false,fJ]at k58
     simp only[aC,sub,Tryz.f97]
     simp[EVT,aT,TYC,hty,k57,k58,h1,hnl,hz']
    | false=>
     rw[h3]at k58
     simp only[cond_false,fJ]at k58
     simp only[aC,sub,Tryz.f97]
     cases h4:aE (↑n:Int) (↑l.length+1)<;>simp[EVT,aT,TYC,hty,k57,k58,h1,h4,i11,hz']
theorem p42_ok:cJ Tryz.prog 97 (aW (pS lenOk fun s => .bool (nameF s))):=pS_ok env9_ok Tryz.func97 (by kernel_rfl) (by kernel_rfl) fun s hs=>⟨name42_run s hs,rfl,rfl⟩
end Go.Proofs.YtogjplcnmibnlaaGreatDoor.Lx
namespace Go.Proofs.YtogjplcnmibnlaaGreatDoor.Tr
open Go.Proofs.YtogjplcnmibnlaaGreatDoor.Env Go.Ev Go.Ev.Nd
def inO (o:List Nat) (l:List (List Nat)):Bool:=l.any fun x=>aB o x
def ops0:List (List Nat):=[[105,110,116],[98,111,111,108],[117,110,105,116],[110,105,108],[115,116,114],[118,97,114]]
def ops1:List (List Nat):=[[102,117,110],[114,97,105,115,101],[103,101,116],[102,115,116],[115,110,100],[114,101,102],[99,101,108,108],[116,97,103],[108,105,110,107,115],[115,105,122,101],[112,114,105,110,116]]
def ops2:List (List Nat):=[[108,101,116],[114,101,99],[116,114,121],[115,101,113],[115,101,116],[101,113],[108,101,115,115],[99,111,110,115],[97,100,100],[115,117,98],[99,97,116],[109,117,108],[97,112,112],[112,97,105,114],[108,105,110,107]]
def ops3:List (List Nat):=[[105,102],[109,97,116,99,104]]
def dS (o:List Nat):Int:=bif inO o ops0 then 0 else bif inO o ops1 then 1 else bif inO o ops2 then 2 else bif inO o ops3 then 3 else -1
theorem eU {a b:List Nat} (h:¬ a=b):aB a b=false:=by cases hb:aB a b with|false=>rfl|true=>exact absurd (cU.1 hb) h
noncomputable abbrev pKids:=cF (eA (Rel1 (fun _:Str=>True) (fun s=>dS s.s)))
theorem eL:Tryz.f60.body=some (aC Tryz.f60 []):=rfl
theorem p32_ok:cJ Tryz.prog 60 pKids:=prim1_ok env_ok (fn:=Tryz.f60) (by kernel_rfl) eL (by kernel_rfl) fun s _=>by
 obtain⟨o⟩:=s
 show ∃ v' h1,bodyL env 60 Tryz.f60 (aC Tryz.f60 []) [.str o] ⟨.e,0⟩=some (v',h1)∧v'.wk 0 (.int .i64 (dS o))
 by_cases e1:o=[105,110,116]
 ·subst e1;exact⟨.int .i64 0,⟨.e,0⟩,cY (by kernel_rfl) (by kernel_rfl) eL rfl (eJ env (k:=80) (by kernel_rfl)),by rw[show dS [105,110,116]=0 from rfl];simp[AV.wk]⟩
 by_cases e2:o=[98,111,111,108]
 ·subst e2;exact⟨.int .i64 0,⟨.e,0⟩,cY (by kernel_rfl) (by kernel_rfl) eL rfl (eJ env (k:=80) (by kernel_rfl)),by rw[show dS [98,111,111,108]=0 from rfl];simp[AV.wk]⟩
 by_cases e3:o=[117,110,105,116]
 ·subst e3;exact⟨.int .i64 0,⟨.e,0⟩,cY (by kernel_rfl) (by kernel_rfl) eL rfl (eJ env (k:=80) (by kernel_rfl)),by rw[show dS [117,110,105,116]=0 from rfl];simp[AV.wk]⟩
 by_cases e4:o=[110,105,108]
 ·subst e4;exact⟨.int .i64 0,⟨.e,0⟩,cY (by kernel_rfl) (by kernel_rfl) eL rfl (eJ env (k:=80) (by kernel_rfl)),by rw[show dS [110,105,108]=0 from rfl];simp[AV.wk]⟩
 by_cases e5:o=[115,116,114]
 ·subst e5;exact⟨.int .i64 0,⟨.e,0⟩,cY (by kernel_rfl) (by kernel_rfl) eL rfl (eJ env (k:=80) (by kernel_rfl)),by rw[show dS [115,116,114]=0 from rfl];simp[AV.wk]⟩
 by_cases e6:o=[118,97,114]
 ·subst e6;exact⟨.int .i64 0,⟨.e,0⟩,cY (by kernel_rfl) (by kernel_rfl) eL rfl (eJ env (k:=80) (by kernel_rfl)),by rw[show dS [118,97,114]=0 from rfl];simp[AV.wk]⟩
 by_cases e7:o=[102,117,110]
 ·subst e7;exact⟨.int .i64 1,⟨.e,0⟩,cY (by kernel_rfl) (by kernel_rfl) eL rfl (eJ env (k:=80) (by kernel_rfl)),by rw[show dS [102,117,110]=1 from rfl];simp[AV.wk]⟩
 by_cases e8:o=[114,97,105,115,101]
 ·subst e8;exact⟨.int .i64 1,⟨.e,0⟩,cY (by kernel_rfl) (by kernel_rfl) eL rfl (eJ env (k:=80) (by kernel_rfl)),by rw[show dS [114,97,105,115,101]=1 from rfl];simp[AV.wk]⟩
 by_cases e9:o=[103,101,116]
 ·subst e9;exact⟨.int .i64 1,⟨.e,0⟩,cY (by kernel_rfl) (by kernel_rfl) eL rfl (eJ env (k:=80) (by kernel_rfl)),by rw[show dS [103,101,116]=1 from rfl];simp[AV.wk]⟩
 by_cases e10:o=[102,115,116]
 ·subst e10;exact⟨.int .i64 1,⟨.e,0⟩,cY (by kernel_rfl) (by kernel_rfl) eL rfl (eJ env (k:=80) (by kernel_rfl)),by rw[show dS [102,115,116]=1 from rfl];simp[AV.wk]⟩
 by_cases e11:o=[115,110,100]
 ·subst e11;exact⟨.int .i64 1,⟨.e,0⟩,cY (by kernel_rfl) (by kernel_rfl) eL rfl (eJ env (k:=80) (by kernel_rfl)),by rw[show dS [115,110,100]=1 from rfl];simp[AV.wk]⟩
 by_cases e12:o=[114,101,102]
 ·subst e12;exact⟨.int .i64 1,⟨.e,0⟩,cY (by kernel_rfl) (by kernel_rfl) eL rfl (eJ env (k:=80) (by kernel_rfl)),by rw[show dS [114,101,102]=1 from rfl];simp[AV.wk]⟩
 by_cases e13:o=[99,101,108,108]
 ·subst e13;exact⟨.int .i64 1,⟨.e,0⟩,cY (by kernel_rfl) (by kernel_rfl) eL rfl (eJ env (k:=80) (by kernel_rfl)),by rw[show dS [99,101,108,108]=1 from rfl];simp[AV.wk]⟩
 by_cases e14:o=[116,97,103]
 ·subst e14;exact⟨.int .i64 1,⟨.e,0⟩,cY (by kernel_rfl) (by kernel_rfl) eL rfl (eJ env (k:=80) (by kernel_rfl)),by rw[show dS [116,97,103]=1 from rfl];simp[AV.wk]⟩
 by_cases e15:o=[108,105,110,107,115]
 ·subst e15;exact⟨.int .i64 1,⟨.e,0⟩,cY (by kernel_rfl) (by kernel_rfl) eL rfl (eJ env (k:=80) (by kernel_rfl)),by rw[show dS [108,105,110,107,115]=1 from rfl];simp[AV.wk]⟩
 by_cases e16:o=[115,105,122,101]
 ·subst e16;exact⟨.int .i64 1,⟨.e,0⟩,cY (by kernel_rfl) (by kernel_rfl) eL rfl (eJ env (k:=80) (by kernel_rfl)),by rw[show dS [115,105,122,101]=1 from rfl];simp[AV.wk]⟩
 by_cases e17:o=[112,114,105,110,116]
 ·subst e17;exact⟨.int .i64 1,⟨.e,0⟩,cY (by kernel_rfl) (by kernel_rfl) eL rfl (eJ env (k:=80) (by kernel_rfl)),by rw[show dS [112,114,105,110,116]=1 from rfl];simp[AV.wk]⟩
 by_cases e18:o=[108,101,116]
 ·subst e18;exact⟨.int .i64 2,⟨.e,0⟩,cY (by kernel_rfl) (by kernel_rfl) eL rfl (eJ env (k:=80) (by kernel_rfl)),by rw[show dS [108,101,116]=2 from rfl];simp[AV.wk]⟩
 by_cases e19:o=[114,101,99]
 ·subst e19;exact⟨.int .i64 2,⟨.e,0⟩,cY (by kernel_rfl) (by kernel_rfl) eL rfl (eJ env (k:=80) (by kernel_rfl)),by rw[show dS [114,101,99]=2 from rfl];simp[AV.wk]⟩
 by_cases e20:o=[116,114,121]
 ·subst e20;exact⟨.int .i64 2,⟨.e,0⟩,cY (by kernel_rfl) (by kernel_rfl) eL rfl (eJ env (k:=80) (by kernel_rfl)),by rw[show dS [116,114,121]=2 from rfl];simp[AV.wk]⟩
 by_cases e21:o=[115,101,113]
 ·subst e21;exact⟨.int .i64 2,⟨.e,0⟩,cY (by kernel_rfl) (by kernel_rfl) eL rfl (eJ env (k:=80) (by kernel_rfl)),by rw[show dS [115,101,113]=2 from rfl];simp[AV.wk]⟩
 by_cases e22:o=[115,101,116]
 ·subst e22;exact⟨.int .i64 2,⟨.e,0⟩,cY (by kernel_rfl) (by kernel_rfl) eL rfl (eJ env (k:=80) (by kernel_rfl)),by rw[show dS [115,101,116]=2 from rfl];simp[AV.wk]⟩
 by_cases e23:o=[101,113]
 ·subst e23;exact⟨.int .i64 2,⟨.e,0⟩,cY (by kernel_rfl) (by kernel_rfl) eL rfl (eJ env (k:=80) (by kernel_rfl)),by rw[show dS [101,113]=2 from rfl];simp[AV.wk]⟩
 by_cases e24:o=[108,101,115,115]
 ·subst e24;exact⟨.int .i64 2,⟨.e,0⟩,cY (by kernel_rfl) (by kernel_rfl) eL rfl (eJ env (k:=80) (by kernel_rfl)),by rw[show dS [108,101,115,115]=2 from rfl];simp[AV.wk]⟩
 by_cases e25:o=[99,111,110,115]
 ·subst e25;exact⟨.int .i64 2,⟨.e,0⟩,cY (by kernel_rfl) (by kernel_rfl) eL rfl (eJ env (k:=80) (by kernel_rfl)),by rw[show dS [99,111,110,115]=2 from rfl];simp[AV.wk]⟩
 by_cases e26:o=[97,100,100]
 ·subst e26;exact⟨.int .i64 2,⟨.e,0⟩,cY (by kernel_rfl) (by kernel_rfl) eL rfl (eJ env (k:=80) (by kernel_rfl)),by rw[show dS [97,100,100]=2 from rfl];simp[AV.wk]⟩
 by_cases e27:o=[115,117,98]
 ·subst e27;exact⟨.int .i64 2,⟨.e,0⟩,cY (by kernel_rfl) (by kernel_rfl) eL rfl (eJ env (k:=80) (by kernel_rfl)),by rw[show dS [115,117,98]=2 from rfl];simp[AV.wk]⟩
 by_cases e28:o=[99,97,116]
 ·subst e28;exact⟨.int .i64 2,⟨.e,0⟩,cY (by kernel_rfl) (by kernel_rfl) eL rfl (eJ env (k:=80) (by kernel_rfl)),by rw[show dS [99,97,116]=2 from rfl];simp[AV.wk]⟩
 by_cases e29:o=[109,117,108]
 ·subst e29;exact⟨.int .i64 2,⟨.e,0⟩,cY (by kernel_rfl) (by kernel_rfl) eL rfl (eJ env (k:=80) (by kernel_rfl)),by rw[show dS [109,117,108]=2 from rfl];simp[AV.wk]⟩
 by_cases e30:o=[97,112,112]
 ·subst e30;exact⟨.int .i64 2,⟨.e,0⟩,cY (by kernel_rfl) (by kernel_rfl) eL rfl (eJ env (k:=80) (by kernel_rfl)),by rw[show dS [97,112,112]=2 from rfl];simp[AV.wk]⟩
 by_cases e31:o=[112,97,105,114]
 ·subst e31;exact⟨.int .i64 2,⟨.e,0⟩,cY (by kernel_rfl) (by kernel_rfl) eL rfl (eJ env (k:=80) (by kernel_rfl)),by rw[show dS [112,97,105,114]=2 from rfl];simp[AV.wk]⟩
 by_cases e32:o=[108,105,110,107]
 ·subst e32;exact⟨.int .i64 2,⟨.e,0⟩,cY (by kernel_rfl) (by kernel_rfl) eL rfl (eJ env (k:=80) (by kernel_rfl)),by rw[show dS [108,105,110,107]=2 from rfl];simp[AV.wk]⟩
 by_cases e33:o=[105,102]
 ·subst e33;exact⟨.int .i64 3,⟨.e,0⟩,cY (by kernel_rfl) (by kernel_rfl) eL rfl (eJ env (k:=80) (by kernel_rfl)),by rw[show dS [105,102]=3 from rfl];simp[AV.wk]⟩
 by_cases e34:o=[109,97,116,99,104]
 ·subst e34;exact⟨.int .i64 3,⟨.e,0⟩,cY (by kernel_rfl) (by kernel_rfl) eL rfl (eJ env (k:=80) (by kernel_rfl)),by rw[show dS [109,97,116,99,104]=3 from rfl];simp[AV.wk]⟩
 replace e1:=eU e1
 replace e2:=eU e2
 replace e3:=eU e3
 replace e4:=eU e4
 replace e5:=eU e5
 replace e6:=eU e6
 replace e7:=eU e7
 replace e8:=eU e8
 replace e9:=eU e9
 replace e10:=eU e10
 replace e11:=eU e11
 replace e12:=eU e12
 replace e13:=eU e13
 replace e14:=eU e14
 replace e15:=eU e15
 replace e16:=eU e16
 replace e17:=eU e17
 replace e18:=eU e18
 replace e19:=eU e19
 replace e20:=eU e20
 replace e21:=eU e21
 replace e22:=eU e22
 replace e23:=eU e23
 replace e24:=eU e24
 replace e25:=eU e25
 replace e26:=eU e26
 replace e27:=eU e27
 replace e28:=eU e28
 replace e29:=eU e29
 replace e30:=eU e30
 replace e31:=eU e31
 replace e32:=eU e32
 replace e33:=eU e33
 replace e34:=eU e34
 have hk:dS o = -1:=by simp[dS,inO,ops0,ops1,ops2,ops3,e1,e2,e3,e4,e5,e6,e7,e8,e9,e10,e11,e12,e13,e14,e15,e16,e17,e18,e19,e20,e21,e22,e23,e24,e25,e26,e27,e28,e29,e30,e31,e32,e33,e34]
 rw[hk]
 unfold bodyL
 simp only[aC,sub,Tryz.f60]
 simp[EVT,aT,bC,aX,bA,bT,aL,aN,aG,aZ,val,bN,cP,aU,setArgs,bQ,bS,bJ,aR,bytesOf,AV.wk,e1,e2,e3,e4,e5,e6,e7,e8,e9,e10,e11,e12,e13,e14,e15,e16,e17,e18,e19,e20,e21,e22,e23,e24,e25,e26,e27,e28,e29,e30,e31,e32,e33,e34]
end Go.Proofs.YtogjplcnmibnlaaGreatDoor.Tr
namespace Go.Proofs.YtogjplcnmibnlaaGreatDoor.Tr
open Go.Proofs.YtogjplcnmibnlaaGreatDoor.Env Go.Ev Go.Ev.Nd Go.Proofs.YtogjplcnmibnlaaGreatDoor.Lx
attribute [local simp] bC aX bA bT aL aN aQ bX bF bW dE cD aV AV.cells aG aZ val aH bN bP cP bG eI aU aO aM bY bI recheck H.new H.put cT aY bB AV.one setArgs bQ bS bJ aR aP bK
def strS:List Nat:=[115,116,114]
def intS:List Nat:=[105,110,116]
def boolS:List Nat:=[98,111,111,108]
def namA (o p:List Nat):Bool:=bif aB o varS||(aB o funS||(aB o letS||aB o tryS))then nameF p else bif aB o recS||aB o dY then nameF p else bif aB o strS then okT p else aB p []
def namB (o q:List Nat):Bool:=bif aB o recS||aB o dY then nameF q else aB q []
def namN (o:List Nat) (n:Int):Bool:=bif aB o intS then !ltI n 0 && !ltI 999999999999999999 n else bif aB o boolS then aE n 0||aE n 1 else aE n 0
def namesR (t:Nd):Bool:=namA t.op t.name&&(namB t.op t.arg&&namN t.op t.n)
noncomputable abbrev pNm:=aW (pS lenOk fun s => .bool (nameF s))
noncomputable abbrev pTx:=aW (pS lenOk fun s => .bool (okT s))
theorem p43_ok:cJ Tryz.prog 98 pTx:=pS_ok env7_ok Tryz.func98 (by kernel_rfl) (by kernel_rfl) fun s hs=>⟨rtext_run s (by have:=lenOk_iff.1 hs;omega),rfl,rfl⟩
noncomputable abbrev pNamesR:=cF (eA (Rel1 fit namesR))
noncomputable abbrev e4243:Env:=bH (bH env 97 pNm) 98 pTx
theorem e4243_ok:dW Tryz.prog e4243:=bD (bD env_ok p42_ok) p43_ok
theorem body33:Tryz.f61.body=some (aC Tryz.f61 []):=rfl
theorem lenOk_of {s:List Nat} (h:okS s):lenOk s=true:=lenOk_iff.2 (by have:=h.1;omega)
theorem p33_ok:cJ Tryz.prog 61 pNamesR:=prim1_ok e4243_ok (fn:=Tryz.f61) (by kernel_rfl) body33 (by kernel_rfl) fun t hf=>by
 obtain⟨o,p,q,n,a,ks⟩:=t
 simp only[fit]at hf
 have k42p:=fun h=>pS_call (E:=e4243) (f:=97) (r:=fun s => .bool (nameF s)) (by kernel_rfl) h p (lenOk_of hf.2.1)
 have k42q:=fun h=>pS_call (E:=e4243) (f:=97) (r:=fun s => .bool (nameF s)) (by kernel_rfl) h q (lenOk_of hf.2.2.1)
 have k43:=fun h=>pS_call (E:=e4243) (f:=98) (r:=fun s => .bool (okT s)) (by kernel_rfl) h p (lenOk_of hf.2.1)
 have hty:e4243.ty=env.ty:=rfl
 have hpl:e4243.plan=env.plan:=rfl
 show ∃ v' h1,bodyL e4243 61 Tryz.f61 (aC Tryz.f61 []) [(Nd.mk o p q n a ks).av] ⟨.e,0⟩=some (v',h1)∧v'.wk 0 (.bool (namesR (.mk o p q n a ks)))
 unfold bodyL namesR namA namB namN
 simp only[aC,sub,Tryz.f61,Nd.op,Nd.name,Nd.arg,Nd.n,Nd.av]
 generalize nameF p=np at *
 generalize nameF q=nq at *
 generalize okT p=tp at *
 generalize hp0:aB p []=p0 at *
 generalize hq0:aB q []=q0 at *
 by_cases e1:o=varS
 ·subst e1;cases np<;>cases q0<;>cases h3:aE n 0<;>simp[EVT,aT,TYC,hty,hpl,aB,bytesOf,varS,funS,letS,tryS,recS,dY,strS,intS,boolS,k42p,k42q,k43,hp0,hq0,h3,AV.wk]
 by_cases e2:o=funS
 ·subst e2;cases np<;>cases q0<;>cases h3:aE n 0<;>simp[EVT,aT,TYC,hty,hpl,aB,bytesOf,varS,funS,letS,tryS,recS,dY,strS,intS,boolS,k42p,k42q,k43,hp0,hq0,h3,AV.wk]
 by_cases e3:o=letS
 ·subst e3;cases np<;>cases q0<;>cases h3:aE n 0<;>simp[EVT,aT,TYC,hty,hpl,aB,bytesOf,varS,funS,letS,tryS,recS,dY,strS,intS,boolS,k42p,k42q,k43,hp0,hq0,h3,AV.wk]
 by_cases e4:o=tryS
 ·subst e4;cases np<;>cases q0<;>cases h3:aE n 0<;>simp[EVT,aT,TYC,hty,hpl,aB,bytesOf,varS,funS,letS,tryS,recS,dY,strS,intS,boolS,k42p,k42q,k43,hp0,hq0,h3,AV.wk]
 by_cases e5:o=recS
 ·subst e5;cases np<;>cases nq<;>cases h3:aE n 0<;>simp[EVT,aT,TYC,hty,hpl,aB,bytesOf,varS,funS,letS,tryS,recS,dY,strS,intS,boolS,k42p,k42q,k43,hp0,hq0,h3,AV.wk]
 by_cases e6:o=dY
 ·subst e6;cases np<;>cases nq<;>cases h3:aE n 0<;>simp[EVT,aT,TYC,hty,hpl,aB,bytesOf,varS,funS,letS,tryS,recS,dY,strS,intS,boolS,k42p,k42q,k43,hp0,hq0,h3,AV.wk]
 by_cases e7:o=strS
 ·subst e7;cases tp<;>cases q0<;>cases h3:aE n 0<;>simp[EVT,aT,TYC,hty,hpl,aB,bytesOf,varS,funS,letS,tryS,recS,dY,strS,intS,boolS,k42p,k42q,k43,hp0,hq0,h3,AV.wk]
 by_cases e8:o=intS
 ·subst e8;cases p0<;>cases q0<;>cases h3:ltI n 0<;>cases h4:ltI 999999999999999999 n<;>simp[EVT,aT,TYC,hty,hpl,aB,bytesOf,varS,funS,letS,tryS,recS,dY,strS,intS,boolS,k42p,k42q,k43,hp0,hq0,h3,h4,AV.wk]
 by_cases e9:o=boolS
 ·subst e9;cases p0<;>cases q0<;>cases h3:aE n 0<;>cases h4:aE n 1<;>simp[EVT,aT,TYC,hty,hpl,aB,bytesOf,varS,funS,letS,tryS,recS,dY,strS,intS,boolS,k42p,k42q,k43,hp0,hq0,h3,h4,AV.wk]
 replace e1:=eU e1
 replace e2:=eU e2
 replace e3:=eU e3
 replace e4:=eU e4
 replace e5:=eU e5
 replace e6:=eU e6
 replace e7:=eU e7
 replace e8:=eU e8
 replace e9:=eU e9
 simp only[varS,funS,letS,tryS,recS,dY,strS,intS,boolS]at e1 e2 e3 e4 e5 e6 e7 e8 e9
 cases p0<;>cases q0<;>cases h3:aE n 0<;>simp[EVT,aT,TYC,hty,hpl,bytesOf,varS,funS,letS,tryS,recS,dY,strS,intS,boolS,e1,e2,e3,e4,e5,e6,e7,e8,e9,hp0,hq0,h3,AV.wk]
end Go.Proofs.YtogjplcnmibnlaaGreatDoor.Tr
namespace Go.Proofs.YtogjplcnmibnlaaGreatDoor.Tr
open Go.Proofs.YtogjplcnmibnlaaGreatDoor.Env Go.Ev Go.Ev.Nd
attribute [local simp] bC aX bA bT aL aN aQ bX bF bW dE cD aV AV.cells aG aZ val aH bN bP cP bG eI aU aO aM bY bI recheck H.new H.put cT aY bB AV.one setArgs bQ bS bJ aR aP bK
mutual
def eachF:Nd→Bool
 | .mk o p q n a ks=>aE (dS o) ↑ks.length&&(namesR (.mk o p q n a ks)&&eachL ks)
def eachL:List Nd→Bool
 | []=>true
 | t::l=>eachF t&&eachL l
end
theorem eachF_eq (t:Nd):eachF t=(aE (dS t.op) ↑t.kids.length&&(namesR t&&eachL t.kids)):=by cases t;rfl
theorem eachL_iff:∀ {l:List Nd},eachL l=true↔∀ t∈l,eachF t=true
 | []=>by simp[eachL]
 | t::l=>by simp[eachL,eachL_iff (l:=l)]
noncomputable def b20_0:Code:=aK Tryz.f32 0
theorem body20:Tryz.f32.body=some (.seq (aC Tryz.f32 [0]) (.seq (aC Tryz.f32 [1,0]) (.seq (.seq (aC Tryz.f32 [1,1,0,0]) (.block 0 (.loop b20_0))) (aC Tryz.f32 [1,1,1])))):=rfl
theorem loop20 {E:Env} (hty:E.ty=env.ty) (hpl:E.plan=env.plan) {c0 c1 c2 c3 c4:AV} {ks:List Nd} {d:Nat} (hl:ks.length≤9223372036854775807) (hf:fits ks) (hd:deps ks≤d)
  (hc:∀ t h,dep t≤d→fit t→evL E 32 [t.av] h=some (.bool (eachF t),h)) :
  ∀ (l:List Nd) (i:Nat) {tm:Tm} {h:H} {x:Option (Ex × Tm × H)},cdL E 32 30 (.loop b20_0) tm h=x→l=ks.drop i→i≤ks.length →
  tm.get 1=some (.ptr (some (0,0)))→tm.get 3=some (.int .i64 ↑i)→h.t.get 0=some (.cells [c0,c1,c2,c3,c4,.sl .no (avs ks)]) →
  ∃ tm',x=some (bif eachL l then .exit 0 else .ret,tm',h)∧(eachL l=false→tm'.get 2=some (.bool false))
 | [],i,tm,h,x,hx,hd,hi,h1,h3,hz=>by
  have hlen:=dnil hd hi
  have hl2:=avs_len ks
  rw[hlen]at hl2
  obtain⟨R,hR,hx⟩:=aS hx
  simp[b20_0,aK,Tryz.f32,loops,EVT,TYC,lp,hty,h1,h3,hz,hl2,dZ]at hx
  exact⟨_,by rw[←hx];rfl,fun e=>by simp[eachL]at e⟩
 | t::l,i,tm,h,x,hx,hdr,hi,h1,h3,hz=>by
  obtain⟨hlt,hct,hd'⟩:=gC hdr
  have hl2:=avs_len ks
  have hat:=cX hct
  have htm:=List.mem_of_getElem? hct
  obtain⟨R,hR,hx⟩:=aS hx
  have hlt':=eR hlt
  have hw:=cH (i:=i) (by omega)
  have hcall:=fun h=>hc t h (Nat.le_trans (dep_mem htm) hd) (fits_mem.1 hf t htm)
  obtain⟨a0,a1,a2,a3,a4,a5,ha⟩:=nd_cells t
  rw[ha]at hat hcall
  simp only[eachL]
  cases hb:eachF t with
  | false=>
   simp[b20_0,aK,Tryz.f32,loops,EVT,TYC,lp,hty,h1,h3,hz,hl2,hlt',hat,hcall,hb]at hx
   exact⟨_,by rw[←hx];rfl,fun _=>by simp[T.aA]⟩
  | true=>
   simp[b20_0,aK,Tryz.f32,loops,EVT,TYC,lp,hty,h1,h3,hz,hl2,hlt',hat,hcall,hb,hw]at hx
   rw[hR]at hx
   simp only[Bool.true_and]
   exact loop20 hty hpl hl hf hd hc l (i+1) hx hd' hlt (by simp[T.aA,h1]) (by simp[T.aA]) hz
def qEa (d:Nat) (t:Nd):Prop:=dep t≤d∧fit t
noncomputable abbrev pdEa (d:Nat):=cF (eA (Rel1 (qEa d) eachF))
noncomputable abbrev pEach:=cF (eA (Rel1 fit eachF))
noncomputable abbrev eEa:Env:=bH (bH env 60 pKids) 61 pNamesR
theorem eEa_ok:dW Tryz.prog eEa:=bD (bD env_ok p32_ok) p33_ok
theorem pd20_ok:∀ d,cJ Tryz.prog 32 (pdEa d):=prim_rec eEa_ok (prim_none Tryz.func32 (by kernel_rfl) (by kernel_rfl) (prim_empty1 fun a h=>by have:=dep_pos a;have:=h.1;omega)) fun d hE=>by
 refine prim1_ok hE (fn:=Tryz.f32) (by kernel_rfl) body20 (by kernel_rfl) fun t hq => ?_
 obtain⟨hdp,hf⟩:=hq
 have hcall:∀ t h,dep t≤d→fit t→evL (bH eEa 32 (pdEa d)) 32 [t.av] h=some (.bool (eachF t),h):=fun t h h1 h2=>
  fG (a:=t) (F:=eachF) (q:=qEa d) (by kernel_rfl) (Enc.bare 0 t) ⟨h1,h2⟩ h
 have k32:∀ o h,evL (bH eEa 32 (pdEa d)) 60 [.str o] h=some (.int .i64 (dS o),h):=fun o h=>
  fG (a:=(⟨o⟩:Str)) (F:=fun s:Str=>dS s.s) (q:=fun _=>True) (by kernel_rfl) (Enc.bare 0 (⟨o⟩:Str)) trivial h
 have k33:∀ h,evL (bH eEa 32 (pdEa d)) 61 [t.av] h=some (.bool (namesR t),h):=fun h=>
  fG (a:=t) (F:=namesR) (q:=fit) (by kernel_rfl) (Enc.bare 0 t) hf h
 have hty:(bH eEa 32 (pdEa d)).ty=env.ty:=rfl
 have hpl:(bH eEa 32 (pdEa d)).plan=env.plan:=rfl
 generalize bH eEa 32 (pdEa d)=E at *
 obtain⟨o,p,q,n,a,ks⟩:=t
 simp only[dep]at hdp
 simp only[fit]at hf
 have hl2:=avs_len ks
 rw[show(Enc.enc (Nd.mk o p q n a ks):AV)=(Nd.mk o p q n a ks).av from rfl]
 simp only[eachF]
 generalize namesR (.mk o p q n a ks)=nr at *
 simp only[Nd.av]at k33 ⊢
 unfold bodyL
 simp only[aC,sub,Tryz.f32]
 cases hk:aE (dS o) ↑ks.length with
 | false=>simp[EVT,aT,TYC,hty,hpl,k32,hl2,hk,AV.wk,Enc.enc]
 | true=>
  cases nr with
  | false=>simp[EVT,aT,TYC,hty,hpl,k32,k33,hl2,hk,AV.wk,Enc.enc]
  | true=>
   simp[EVT,aT,TYC,hty,hpl,k32,k33,hl2,hk]
   generalize hx:cdL E 32 30 (.loop b20_0) _ _=x
   obtain⟨tm',rfl,g5⟩:=loop20 hty hpl (c0 := .str o) (c1 := .str p) (c2 := .str q) (c3 := .int .i64 n) (c4 := .int .i64 a) (ks:=ks) (d:=d) hf.2.2.2.2.2.1 hf.2.2.2.2.2.2 (by omega) hcall ks 0 hx rfl (Nat.zero_le _) (by simp[T.aA]) (by simp[T.aA]) (by simp[T.aA])
   cases he:eachL ks with
   | false=>simp[g5 he,AV.wk,Enc.enc]
   | true=>simp[EVT,AV.wk,Enc.enc]
theorem p20_ok:cJ Tryz.prog 32 pEach:=prim_union pd20_ok (union1 fun a h=>⟨dep a,Nat.le_refl _,h⟩)
def isR (t:Nd):Bool:=bif ltI 2000 (sizeF t)then false else eachF t
noncomputable abbrev pIsR:=cF (eA (Rel1 fit isR))
noncomputable abbrev e720:Env:=bH (bH env 7 pSize) 32 pEach
theorem e720_ok:dW Tryz.prog e720:=bD (bD env_ok p7_ok) p20_ok
theorem p8_ok:cJ Tryz.prog 14 pIsR:=prim1_ok e720_ok (fn:=Tryz.f14) (by kernel_rfl) rfl (by kernel_rfl) fun t hf=>by
 have k7:∀ h,evL e720 7 [t.av] h=some (.int .i64 (sizeF t),h):=fun h=>fG (a:=t) (F:=sizeF) (q:=fit) (by kernel_rfl) (Enc.bare 0 t) hf h
 have k20:∀ h,evL e720 32 [t.av] h=some (.bool (eachF t),h):=fun h=>fG (a:=t) (F:=eachF) (q:=fit) (by kernel_rfl) (Enc.bare 0 t) hf h
 have hty:e720.ty=env.ty:=rfl
 have hpl:e720.plan=env.plan:=rfl
 obtain⟨a0,a1,a2,a3,a4,a5,ha⟩:=nd_cells t
 rw[show(Enc.enc t:AV)=t.av from rfl]
 unfold isR
 rw[ha]at k7 k20 ⊢
 generalize sizeF t=k at *
 generalize eachF t=e at *
 unfold bodyL
 simp only[Tryz.f14]
 cases hb:ltI 2000 k<;>simp[EVT,aT,TYC,hty,k7,k20,hb,AV.wk,Enc.enc]
end Go.Proofs.YtogjplcnmibnlaaGreatDoor.Tr
