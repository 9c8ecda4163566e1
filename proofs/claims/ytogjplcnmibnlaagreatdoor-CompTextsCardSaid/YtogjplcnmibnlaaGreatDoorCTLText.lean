/- The base of the lexer's texts at this seat. -/
import Derived.Test.YtogjplcnmibnlaaGreatDoorCA
set_option autoImplicit false
set_option maxRecDepth 100000
set_option linter.unusedSimpArgs false
set_option linter.unusedVariables false
namespace Go.Proofs.YtogjplcnmibnlaaGreatDoor.Lx
open Go.Ev Go.Proofs.YtogjplcnmibnlaaGreatDoor.Env
noncomputable abbrev env2:Env:=env
theorem env2_ok:dW Tryz.prog env2:=env_ok
end Go.Proofs.YtogjplcnmibnlaaGreatDoor.Lx
namespace Go.Proofs.YtogjplcnmibnlaaGreatDoor.Lx
open Go.Ev Go.Proofs.YtogjplcnmibnlaaGreatDoor.Env
attribute [local simp] bC aX bA bT aL aN aQ bX bF bW dE cD aV AV.cells aG aZ val aH bN bP cP bG eI aU aO aM bY bI recheck H.new H.put cT aY bB AV.one setArgs bQ bS bJ aR aP bK
def dH (c:Int):Bool := !ltI c 97 && !ltI 122 c
def cV (c:Int):Bool := !ltI c 48 && !ltI 57 c
def dR (c:Int):Bool:=dH c||(cV c||(aE c 95||aE c 39))
def dD (c:Int):Bool := !ltI c 32&&(!ltI 126 c && !aE c 34)
theorem fn17:env2.fns 133=some Tryz.f133:=by kernel_rfl
theorem pr17:env2.prim 133=none:=by kernel_rfl
theorem fn19:env2.fns 135=some Tryz.f135:=by kernel_rfl
theorem pr19:env2.prim 135=none:=by kernel_rfl
theorem fn31:env2.fns 141=some Tryz.f141:=by kernel_rfl
theorem pr31:env2.prim 141=none:=by kernel_rfl
theorem fn33:env2.fns 143=some Tryz.f143:=by kernel_rfl
theorem pr33:env2.prim 143=none:=by kernel_rfl
theorem fn23:env2.fns 85=some Tryz.f85:=by kernel_rfl
theorem pr23:env2.prim 85=none:=by kernel_rfl
theorem fn25:env2.fns 87=some Tryz.f87:=by kernel_rfl
theorem pr25:env2.prim 87=none:=by kernel_rfl
theorem isLetter_run (c:Int) (h:H) (k:Nat):cG env2 (k+12) 133 [.int .u8 c] h=some (.bool (dH c),h):=by
 simp[pr17,fn17,Tryz.f133,cG,aJ,fD]
 cases h1:ltI c 97<;>cases h2:ltI 122 c<;>simp[fD,dH,h1,h2]
theorem isDigit_run (c:Int) (h:H) (k:Nat):cG env2 (k+12) 135 [.int .u8 c] h=some (.bool (cV c),h):=by
 simp[pr19,fn19,Tryz.f135,cG,aJ,fD]
 cases h1:ltI c 48<;>cases h2:ltI 57 c<;>simp[fD,cV,h1,h2]
theorem small_run (c:Int) (h:H) (k:Nat):cG env2 (k+12) 85 [.int .u8 c] h=some (.bool (dH c),h):=by
 simp[pr23,fn23,Tryz.f85,cG,aJ,fD]
 cases h1:ltI c 97<;>cases h2:ltI 122 c<;>simp[fD,dH,h1,h2]
theorem digit_run (c:Int) (h:H) (k:Nat):cG env2 (k+12) 87 [.int .u8 c] h=some (.bool (cV c),h):=by
 simp[pr25,fn25,Tryz.f87,cG,aJ,fD]
 cases h1:ltI c 48<;>cases h2:ltI 57 c<;>simp[fD,cV,h1,h2]
theorem isPlain_run (c:Int) (h:H) (k:Nat):cG env2 (k+12) 143 [.int .u8 c] h=some (.bool (dD c),h):=by
 simp[pr33,fn33,Tryz.f143,cG,aJ,fD]
 cases h1:ltI c 32<;>cases h2:ltI 126 c<;>cases h3:aE c 34<;>simp[fD,dD,h1,h2,h3]
theorem isMore_run (c:Int) (h:H) (k:Nat):cG env2 (k+24) 141 [.int .u8 c] h=some (.bool (dR c),h):=by
 have i1:=fun k=>isLetter_run c h k
 have i2:=fun k=>isDigit_run c h k
 rw[cG]
 simp[pr31,fn31,Tryz.f141,aJ,fD,i1]
 cases h1:dH c<;>cases h2:cV c<;>cases h3:aE c 95<;>cases h4:aE c 39<;>simp[fD,dR,h1,h2,h3,h4,i2]
end Go.Proofs.YtogjplcnmibnlaaGreatDoor.Lx
namespace Go.Proofs.YtogjplcnmibnlaaGreatDoor.Lx
open Go.Ev Go.Proofs.YtogjplcnmibnlaaGreatDoor.Env
theorem evFn_prim {E:Env} {f:Nat} {p:List AV→H→Option (AV × H)} (hp:E.prim f=some p) (k:Nat) (args:List AV) (h:H):cG E (k+1) f args h=p args h:=by
 rw[cG,hp]
def pI (q:Int→Bool):List AV→Option AV
 | [.int .u8 c]=>some (.bool (q c))
 | _=>none
theorem pI_ok {f:Nat} {fn:Func} {q:Int→Bool} (hfn:Tryz.prog.funcs[f]?=some fn) (hnm:(fn.name == "runtime.NumGoroutine")=false) (hb:fn.body.isNone=false)
  (hr:∀ c h k,cG env2 (k+24) f [.int .u8 c] h=some (.bool (q c),h)):cJ Tryz.prog f (aW (pI q)):=by
 refine primPure_ok env2_ok hfn hnm hb fun args v hv => ?_
 unfold pI at hv
 split at hv
 ·rename_i c
  simp only[Option.some.injEq]at hv
  subst hv
  exact⟨24,_,_,hr c _ 0,rfl,rfl⟩
 ·simp at hv
noncomputable def env3:Env:=bH (bH (bH (bH (bH (bH env2 133 (aW (pI dH))) 135 (aW (pI cV))) 141 (aW (pI dR))) 143 (aW (pI dD))) 85 (aW (pI dH))) 87 (aW (pI cV))
theorem env3_ok:dW Tryz.prog env3:=
 bD (bD (bD (bD (bD (bD env2_ok
  (pI_ok Tryz.func133 (by kernel_rfl) (by kernel_rfl) fun c h k=>isLetter_run c h (k+12)))
  (pI_ok Tryz.func135 (by kernel_rfl) (by kernel_rfl) fun c h k=>isDigit_run c h (k+12)))
  (pI_ok Tryz.func141 (by kernel_rfl) (by kernel_rfl) fun c h k=>isMore_run c h k))
  (pI_ok Tryz.func143 (by kernel_rfl) (by kernel_rfl) fun c h k=>isPlain_run c h (k+12)))
  (pI_ok Tryz.func85 (by kernel_rfl) (by kernel_rfl) fun c h k=>small_run c h (k+12)))
  (pI_ok Tryz.func87 (by kernel_rfl) (by kernel_rfl) fun c h k=>digit_run c h (k+12))
theorem e3_19:env3.prim 135=some (aW (pI cV)):=by kernel_rfl
theorem e3_31:env3.prim 141=some (aW (pI dR)):=by kernel_rfl
theorem e3_33:env3.prim 143=some (aW (pI dD)):=by kernel_rfl
theorem e3_30:env3.prim 140=none:=by kernel_rfl
theorem f3_30:env3.fns 140=some Tryz.f140:=by kernel_rfl
theorem t3_9:env3.ty 9=some { kind:=TK.str,sz:=1,byt:=16,zero:=some (AV.str []),ag:=false,eqf:=none }:=by kernel_rfl
def cnt (q:Int→Bool):List Nat→Nat
 | []=>0
 | a::l=>bif q ↑a then cnt q l+1 else 0
def predOf:Nat→Option (Int→Bool)
 | 135=>some cV
 | 141=>some dR
 | 143=>some dD
 | _=>none
theorem pred_call {f:Nat} {q:Int→Bool} (hq:predOf f=some q) (k:Nat) (c:Int) (h:H):cG env3 (k+1) f [.int .u8 c] h=some (.bool (q c),h):=by
 unfold predOf at hq
 split at hq<;>simp only[Option.some.injEq,reduceCtorEq]at hq<;>subst hq
 ·rw[evFn_prim e3_19];simp[aW,pI,AV.fF,AV.pure,AV.dJ,AV.forget]
 ·rw[evFn_prim e3_31];simp[aW,pI,AV.fF,AV.pure,AV.dJ,AV.forget]
 ·rw[evFn_prim e3_33];simp[aW,pI,AV.fF,AV.pure,AV.dJ,AV.forget]
theorem wr_nat {n:Nat} (h:n<9223372036854775808):wr .i64 (↑n:Int)=↑n:=by
 rw[wr_eq];exact eX (by omega) (by omega)
theorem eN (a b:Nat):ltI (↑a) (↑b)=decide (a<b):=by rw[dI];simp
noncomputable def b30:Code:=aK Tryz.f140 0
structure R30 (s:List Nat) (a n f:Nat) (tm:Tm):Prop where
 g0:tm.get 0=some (.str s)
 g1:tm.get 1=some (.int .i64 ↑a)
 g2:tm.get 2=some (.fn f [] [])
 g7:tm.get 7=some (.int .i64 ↑n)
theorem round30 (call:fO) (s:List Nat) (a n f:Nat) (tm:Tm) (h:H) (k:Nat) (c:Nat) (R:R30 s a n f tm) (hl:s.length<4611686018427387904) (hlt:a+n<s.length) (hc:s[a+n]?=some c)
  (hp:call f [.int .u8 ↑c] h=some (.bool true,h)):∃ tm',aJ call env3 140 26 (k+20) b30 tm h=some (.normal,tm',h)∧R30 s a (n+1) f tm':=by
 obtain⟨h0,h1,h2,h7⟩:=R
 have hw:wr .i64 (↑a+↑n)=↑(a+n):=by have:=wr_nat (n:=a+n) (by omega);simpa using this
 have hw2:wr .i64 (↑n+1)=↑(n+1):=by have:=wr_nat (n:=n+1) (by omega);simpa using this
 have hlt':ltI ↑(a+n) ↑s.length=true:=by rw[eN];simp[hlt]
 generalize hm:a+n=m at *
 generalize hm':n+1=m' at *
 simp only[b30,aK,Tryz.f140,loops,List.nil_append,List.append_nil]
 have fin:∀ tm',R30 s a m' f tm'↔(tm'.get 0=some (.str s)∧tm'.get 1=some (.int .i64 ↑a)∧tm'.get 2=some (.fn f [] [])∧tm'.get 7=some (.int .i64 ↑m')):=fun tm'=>⟨fun r=>⟨r.g0,r.g1,r.g2,r.g7⟩,fun r=>⟨r.1,r.2.1,r.2.2.1,r.2.2.2⟩⟩
 simp[aJ,fD,bC,aX,bA,bT,aL,aN,aQ,aG,aZ,val,aH,bN,bP,aU,bJ,aR,aP,bK,h0,h1,h2,h7,t3_9,hw,hw2,hlt',hc,hp,fin]
theorem stop30 (call:fO) (s:List Nat) (a n f:Nat) (tm:Tm) (h:H) (k:Nat) (R:R30 s a n f tm) (hl:s.length<4611686018427387904)
  (hs:(s.length≤a+n∧a+n<4611686018427387904)∨∃ c,a+n<s.length∧s[a+n]?=some c∧call f [.int .u8 ↑c] h=some (.bool false,h)):∃ tm',aJ call env3 140 26 (k+20) b30 tm h=some (.exit 0,tm',h)∧R30 s a n f tm':=by
 obtain⟨h0,h1,h2,h7⟩:=R
 have fin:∀ tm',R30 s a n f tm'↔(tm'.get 0=some (.str s)∧tm'.get 1=some (.int .i64 ↑a)∧tm'.get 2=some (.fn f [] [])∧tm'.get 7=some (.int .i64 ↑n)):=fun tm'=>⟨fun r=>⟨r.g0,r.g1,r.g2,r.g7⟩,fun r=>⟨r.1,r.2.1,r.2.2.1,r.2.2.2⟩⟩
 rcases hs with hs|⟨c,hlt,hc,hp⟩
 ·have hw:wr .i64 (↑a+↑n)=↑(a+n):=by have:=wr_nat (n:=a+n) (by omega);simpa using this
  have hlt':ltI ↑(a+n) ↑s.length=false:=by rw[eN];simp;omega
  generalize hm:a+n=m at *
  simp only[b30,aK,Tryz.f140,loops,List.nil_append,List.append_nil]
  simp[aJ,fD,bC,aX,bA,bT,aL,aN,aQ,aG,aZ,val,aH,bN,bP,aU,bJ,aR,aP,bK,h0,h1,h2,h7,t3_9,hw,hlt',fin]
 ·have hw:wr .i64 (↑a+↑n)=↑(a+n):=by have:=wr_nat (n:=a+n) (by omega);simpa using this
  have hlt':ltI ↑(a+n) ↑s.length=true:=by rw[eN];simp[hlt]
  generalize hm:a+n=m at *
  simp only[b30,aK,Tryz.f140,loops,List.nil_append,List.append_nil]
  simp[aJ,fD,bC,aX,bA,bT,aL,aN,aQ,aG,aZ,val,aH,bN,bP,aU,bJ,aR,aP,bK,h0,h1,h2,h7,t3_9,hw,hlt',hc,hp,fin]
theorem loop30 (K:Nat) (s:List Nat) (a f:Nat) {q:Int→Bool} (hq:predOf f=some q) (h:H) (hl:s.length<4611686018427387904) (ha:a≤s.length):∀ (l:List Nat) (n:Nat) (tm:Tm) (k:Nat),l=s.drop (a+n)→a+n≤s.length→R30 s a n f tm →
  ∃ tm',aJ (cG env3 (K+1)) env3 140 26 (k+l.length+21) (.loop b30) tm h=some (.exit 0,tm',h)∧R30 s a (n+cnt q l) f tm'
 | [],n,tm,k,hd,hn,R=>by
  have hlen:s.length≤a+n:=by
   have:=congrArg List.length hd
   simp at this
   omega
  obtain⟨tm',h1,h2⟩:=stop30 (cG env3 (K+1)) s a n f tm h (k+0) R hl (.inl ⟨hlen,by omega⟩)
  refine⟨tm',?_,by simpa[cnt]using h2⟩
  rw[show k+([]:List Nat).length+21=(k+0+20)+1 by simp,aJ,h1]
 | c::l,n,tm,k,hd,hn,R=>by
  have hlt:a+n<s.length:=by
   have:=congrArg List.length hd
   simp at this
   omega
  have hc:s[a+n]?=some c:=by
   have:(s.drop (a+n))[0]?=some c:=by rw[←hd];rfl
   simpa using this
  have hd':l=s.drop (a+(n+1)):=by
   have:=congrArg List.tail hd
   simpa[List.tail_drop,Nat.add_assoc]using this
  cases hb:q ↑c with
  | true=>
   obtain⟨tm1,h1,h2⟩:=round30 (cG env3 (K+1)) s a n f tm h (k+l.length+1) c R hl hlt hc (by rw[pred_call hq,hb])
   obtain⟨tm',h3,h4⟩:=loop30 K s a f hq h hl ha l (n+1) tm1 k hd' (by omega) h2
   refine⟨tm',?_,by simpa[cnt,hb,Nat.add_assoc,Nat.add_comm 1]using h4⟩
   rw[show k+(c::l).length+21=(k+l.length+1+20)+1 by simp;omega,aJ,h1]
   simp only
   rw[show k+l.length+1+20=k+l.length+21 by omega]
   exact h3
  | false=>
   obtain⟨tm',h1,h2⟩:=stop30 (cG env3 (K+1)) s a n f tm h (k+l.length+1) R hl (.inr ⟨c,hlt,hc,by rw[pred_call hq,hb]⟩)
   refine⟨tm',?_,by simpa[cnt,hb]using h2⟩
   rw[show k+(c::l).length+21=(k+l.length+1+20)+1 by simp;omega,aJ,h1]
theorem body30:Tryz.f140.body=some (.seq (aC Tryz.f140 [0]) (.seq (aC Tryz.f140 [1,0]) (.seq (.block 0 (.loop b30)) (aC Tryz.f140 [1,1,1])))):=rfl
theorem run30 (s:List Nat) (a f:Nat) {q:Int→Bool} (hq:predOf f=some q) (h:H) (hl:s.length<4611686018427387904) (ha:a≤s.length) :
  cG env3 (s.length+40) 140 [.str s,.int .i64 ↑a,.fn f [] []] h=some (.int .i64 ↑(cnt q (s.drop a)),h):=by
 have L:=fun tm k R=>loop30 (s.length+38) s a f hq h hl ha (s.drop a) 0 tm k (by simp) (by simpa using ha) R
 rw[show s.length+40=(s.length+39)+1 by omega,cG]
 simp only[e3_30,f3_30,body30]
 have hk:s.length+39=((((a+14+(s.drop a).length+21)+1)+1)+1)+1:=by simp;omega
 have h1:∃ tm1,aJ (cG env3 (s.length+39)) env3 140 26 (((((a+14+(s.drop a).length+21)+1)+1)+1)) (aC Tryz.f140 [0]) (setArgs 0 [.str s,.int .i64 ↑a,.fn f [] []] .e) h=some (.normal,tm1,h) ∧
   tm1.get 0=some (.str s)∧tm1.get 1=some (.int .i64 ↑a)∧tm1.get 2=some (.fn f [] []):=by
  simp only[aC,sub,Tryz.f140]
  simp[aJ,fD,bC,aX,bA,bT,aL,aN,aG,aZ,val,setArgs,bJ,aR]
 obtain⟨tm1,h1,i0,i1,i2⟩:=h1
 have h2:∃ tm2,aJ (cG env3 (s.length+39)) env3 140 26 ((((a+14+(s.drop a).length+21)+1)+1)) (aC Tryz.f140 [1,0]) tm1 h=some (.normal,tm2,h) ∧
   tm2.get 0=some (.str s)∧tm2.get 1=some (.int .i64 ↑a)∧tm2.get 2=some (.fn f [] [])∧tm2.get 7=some (.int .i64 0):=by
  simp only[aC,sub,Tryz.f140]
  simp[aJ,fD,bC,aX,bA,bT,aL,aN,aG,aZ,val,bJ,aR,i0,i1,i2]
 obtain⟨tm2,h2,j0,j1,j2,j7⟩:=h2
 obtain⟨tm3,h3,R⟩:=L tm2 (a+14) ⟨j0,j1,j2,by simpa using j7⟩
 have h4:∃ tm4,aJ (cG env3 (s.length+39)) env3 140 26 (((a+14+(s.drop a).length+21)+1)) (aC Tryz.f140 [1,1,1]) tm3 h=some (.ret,tm4,h)∧tm4.get 6=some (.int .i64 ↑(cnt q (s.drop a))):=by
  obtain⟨_,_,_,g7⟩:=R
  simp only[aC,sub,Tryz.f140]
  simp[aJ,fD,bC,aX,bA,bT,aL,aN,aG,aZ,val,g7]
 obtain⟨tm4,h4,g6⟩:=h4
 have hall:=run_seq h1 (run_seq h2 (run_seq (run_exit h3) h4))
 rw[←hk]at hall
 have hn:Tryz.f140.ntmps=26:=rfl
 have hres:Tryz.f140.results = #[.tmp 6]:=rfl
 simp only[hn,hall,hres,List.length_cons,List.length_nil]
 simp[bQ,g6,bS,ble_dec]
theorem e3_40:env3.prim 34=none:=by kernel_rfl
theorem f3_40:env3.fns 34=some Tryz.f34:=by kernel_rfl
theorem t3_36:env3.ty 25=some { kind:=TK.sl 9,sz:=1,byt:=24,zero:=some (AV.sl Own.full []),ag:=false,eqf:=none }:=by kernel_rfl
def idxF (v:List Nat):List (List Nat)→Nat→Int
 | [],_ => -1
 | w::l,i=>bif aB v w then ↑i else idxF v l (i+1)
noncomputable def b40:Code:=aK Tryz.f34 0
structure R40 (o:Own) (ws:List (List Nat)) (v:List Nat) (i:Nat) (tm:Tm):Prop where
 g0:tm.get 0=some (.sl o (ws.map .str))
 g1:tm.get 1=some (.str v)
 g7:tm.get 7=some (.int .i64 ↑ws.length)
 g8:tm.get 8=some (.int .i64 ↑i)
section
variable (call:fO) (o:Own) (ws:List (List Nat)) (v:List Nat) (i:Nat) (tm:Tm) (h:H) (k:Nat)
theorem miss40 (R:R40 o ws v i tm) (hl:ws.length<4611686018427387904) (w:List Nat) (hw:ws[i]?=some w) (hne:aB v w=false) :
  ∃ tm',aJ call env3 34 19 (k+20) b40 tm h=some (.normal,tm',h)∧R40 o ws v (i+1) tm':=by
 obtain⟨h0,h1,h7,h8⟩:=R
 have hil:=aI hw
 have hw2:wr .i64 (↑i+1)=↑(i+1):=by have:=wr_nat (n:=i+1) (by omega);simpa using this
 have hlt':ltI ↑i ↑ws.length=true:=by rw[eN];simp[hil]
 generalize hm':i+1=m' at *
 have fin:∀ tm',R40 o ws v m' tm'↔(tm'.get 0=some (.sl o (ws.map .str))∧tm'.get 1=some (.str v)∧tm'.get 7=some (.int .i64 ↑ws.length)∧tm'.get 8=some (.int .i64 ↑m')):=fun tm'=>⟨fun r=>⟨r.g0,r.g1,r.g7,r.g8⟩,fun r=>⟨r.1,r.2.1,r.2.2.1,r.2.2.2⟩⟩
 simp only[b40,aK,Tryz.f34,loops,List.nil_append,List.append_nil]
 simp[aJ,fD,bC,aX,bA,bT,aL,aN,aQ,aV,AV.cells,aG,aZ,val,bN,bP,cP,aU,bJ,aR,aP,bK,h0,h1,h7,h8,t3_9,t3_36,hw2,hlt',hw,hne,fin]
theorem hit40 (R:R40 o ws v i tm) (hl:ws.length<4611686018427387904) (w:List Nat) (hw:ws[i]?=some w) (heq:aB v w=true) :
  ∃ tm',aJ call env3 34 19 (k+20) b40 tm h=some (.ret,tm',h)∧tm'.get 4=some (.int .i64 ↑i):=by
 obtain⟨h0,h1,h7,h8⟩:=R
 have hil:=aI hw
 have hlt':ltI ↑i ↑ws.length=true:=by rw[eN];simp[hil]
 simp only[b40,aK,Tryz.f34,loops,List.nil_append,List.append_nil]
 simp[aJ,fD,bC,aX,bA,bT,aL,aN,aQ,aV,AV.cells,aG,aZ,val,bN,bP,cP,aU,aP,bK,h0,h1,h7,h8,t3_9,t3_36,hlt',hw,heq]
theorem stop40 (R:R40 o ws v i tm) (hi:i=ws.length):∃ tm',aJ call env3 34 19 (k+20) b40 tm h=some (.exit 0,tm',h):=by
 obtain⟨h0,h1,h7,h8⟩:=R
 have hlt':ltI ↑i ↑ws.length=false:=by rw[eN];simp[hi]
 simp only[b40,aK,Tryz.f34,loops,List.nil_append,List.append_nil]
 simp[aJ,fD,bC,aX,bA,bT,aL,aN,aG,aZ,val,bN,bP,aU,aP,bK,h7,h8,hlt']
end
theorem loop40 (call:fO) (o:Own) (ws:List (List Nat)) (v:List Nat) (h:H) (hl:ws.length<4611686018427387904):∀ (l:List (List Nat)) (i:Nat) (tm:Tm) (k:Nat),l=ws.drop i→i≤ws.length→R40 o ws v i tm →
  ∃ tm',(aJ call env3 34 19 (k+l.length+21) (.loop b40) tm h=some (.ret,tm',h)∧tm'.get 4=some (.int .i64 (idxF v l i)))∨(aJ call env3 34 19 (k+l.length+21) (.loop b40) tm h=some (.exit 0,tm',h)∧idxF v l i = -1)
 | [],i,tm,k,hd,hi,R=>by
  have hlen:i=ws.length:=by
   have:=congrArg List.length hd
   simp at this
   omega
  obtain⟨tm',h1⟩:=stop40 call o ws v i tm h k R hlen
  refine⟨tm',.inr ⟨?_,rfl⟩⟩
  rw[show k+([]:List (List Nat)).length+21=(k+20)+1 by simp,aJ,h1]
 | w::l,i,tm,k,hd,hi,R=>by
  have hc:ws[i]?=some w:=by
   have:(ws.drop i)[0]?=some w:=by rw[←hd];rfl
   simpa using this
  have hil:=aI hc
  have hd':l=ws.drop (i+1):=by
   have:=congrArg List.tail hd
   simpa[List.tail_drop]using this
  cases hb:aB v w with
  | true=>
   obtain⟨tm',h1,h2⟩:=hit40 call o ws v i tm h (k+l.length+1) R hl w hc hb
   refine⟨tm',.inl ⟨?_,by simpa[idxF,hb]using h2⟩⟩
   rw[show k+(w::l).length+21=(k+l.length+1+20)+1 by simp;omega,aJ,h1]
  | false=>
   obtain⟨tm1,h1,h2⟩:=miss40 call o ws v i tm h (k+l.length+1) R hl w hc hb
   obtain⟨tm',h3⟩:=loop40 call o ws v h hl l (i+1) tm1 k hd' (by omega) h2
   have hstep:aJ call env3 34 19 (k+(w::l).length+21) (.loop b40) tm h=aJ call env3 34 19 (k+l.length+21) (.loop b40) tm1 h:=by
    rw[show k+(w::l).length+21=(k+l.length+1+20)+1 by simp;omega,aJ,h1]
   refine⟨tm',?_⟩
   rw[hstep]
   simpa[idxF,hb]using h3
theorem body40:Tryz.f34.body=some (.seq (aC Tryz.f34 [0]) (.seq (.seq (aC Tryz.f34 [1,0,0]) (.block 0 (.loop b40))) (aC Tryz.f34 [1,1]))):=rfl
theorem run_ret2 {call:fO} {E:Env} {f n k id:Nat} {b:Code} {tm tm1:Tm} {h h1:H} (hb:aJ call E f n k b tm h=some (.ret,tm1,h1)):aJ call E f n (k+1) (.block id b) tm h=some (.ret,tm1,h1):=by
 simp only[aJ,hb]
theorem run_seq1 {call:fO} {E:Env} {f n k:Nat} {a b:Code} {tm tm1:Tm} {h h1:H} (ha:aJ call E f n k a tm h=some (.ret,tm1,h1)):aJ call E f n (k+1) (.seq a b) tm h=some (.ret,tm1,h1):=by
 simp only[aJ,ha]
theorem run40 (K:Nat) (o:Own) (ws:List (List Nat)) (v:List Nat) (h:H) (hl:ws.length<4611686018427387904) :
  cG env3 (K+ws.length+40) 34 [.sl o (ws.map .str),.str v] h=some (.int .i64 (idxF v ws 0),h):=by
 rw[show K+ws.length+40=(K+ws.length+39)+1 by omega,cG]
 simp only[e3_40,f3_40,body40]
 have hk:K+ws.length+39=((((K+14+ws.length+21)+1)+1)+1)+1:=by omega
 have h1:∃ tm1,aJ (cG env3 (K+ws.length+39)) env3 34 19 (((((K+14+ws.length+21)+1)+1)+1)) (aC Tryz.f34 [0]) (setArgs 0 [.sl o (ws.map .str),.str v] .e) h=some (.normal,tm1,h) ∧
   tm1.get 0=some (.sl o (ws.map .str))∧tm1.get 1=some (.str v):=by
  simp only[aC,sub,Tryz.f34]
  simp[aJ,fD,bC,aX,bA,bT,aL,aN,aG,aZ,val,setArgs,bJ,aR]
 obtain⟨tm1,h1,i0,i1⟩:=h1
 have h2:∃ tm2,aJ (cG env3 (K+ws.length+39)) env3 34 19 ((((K+14+ws.length+21)+1))) (aC Tryz.f34 [1,0,0]) tm1 h=some (.normal,tm2,h)∧R40 o ws v 0 tm2:=by
  have fin:∀ tm',R40 o ws v 0 tm'↔(tm'.get 0=some (.sl o (ws.map .str))∧tm'.get 1=some (.str v)∧tm'.get 7=some (.int .i64 ↑ws.length)∧tm'.get 8=some (.int .i64 0)):=fun tm'=>⟨fun r=>⟨r.g0,r.g1,r.g7,r.g8⟩,fun r=>⟨r.1,r.2.1,r.2.2.1,r.2.2.2⟩⟩
  simp only[aC,sub,Tryz.f34]
  simp[aJ,fD,bC,aX,bA,bT,aL,aN,aQ,aG,aZ,val,aH,bJ,aR,i0,i1,t3_36,fin]
 obtain⟨tm2,h2,R⟩:=h2
 have hn:Tryz.f34.ntmps=19:=rfl
 have hres:Tryz.f34.results = #[.tmp 4]:=rfl
 obtain⟨tm3,h3⟩:=loop40 (cG env3 (K+ws.length+39)) o ws v h hl ws 0 tm2 (K+14) (by simp) (Nat.zero_le _) R
 rcases h3 with ⟨h3,g4⟩|⟨h3,hidx⟩
 ·have hall:=run_seq h1 (run_seq1 (b:=aC Tryz.f34 [1,1]) (run_seq h2 (run_ret2 (id:=0) h3)))
  rw[←hk]at hall
  simp only[hn,hall,hres,List.length_cons,List.length_nil]
  simp[bQ,g4,bS,ble_dec]
 ·have h4:∃ tm4,aJ (cG env3 (K+ws.length+39)) env3 34 19 ((((K+14+ws.length+21)+1)+1)) (aC Tryz.f34 [1,1]) tm3 h=some (.ret,tm4,h)∧tm4.get 4=some (.int .i64 (-1)):=by
   simp only[aC,sub,Tryz.f34]
   simp[aJ,fD,bC,aX,bA,bT,aL,aN,aG,aZ,val,bJ,aR]
  obtain⟨tm4,h4,g4⟩:=h4
  have hall:=run_seq h1 (run_seq (run_seq h2 (run_exit h3)) h4)
  rw[←hk]at hall
  simp only[hn,hall,hres,List.length_cons,List.length_nil]
  simp[bQ,g4,bS,ble_dec,hidx]
def wordsL:List (List Nat):=[[108,101,116],[114,101,99],[105,110],[102,117,110],[105,102],[116,104,101,110],[101,108,115,101],[109,97,116,99,104],[119,105,116,104],[116,114,121],[114,97,105,115,101],[116,114,117,101],[102,97,108,115,101],[102,115,116],[115,110,100],[114,101,102],[99,101,108,108],[116,97,103],[108,105,110,107,115],[108,105,110,107],[115,105,122,101],[112,114,105,110,116]]
def fB:List (List Nat):=[[58,61],[58,58],[45,62],[40],[41],[91],[93],[44],[59],[61],[60],[43],[45],[42],[94],[33],[124]]
def strsOf:List AV→Option (List (List Nat))
 | []=>some []
 | .str s::l=>match strsOf l with
  | none=>none
  | some m=>some (s::m)
 | _::_=>none
theorem strsOf_map:∀ ws:List (List Nat),strsOf (ws.map .str)=some ws
 | []=>rfl
 | w::ws=>by simp[strsOf,strsOf_map ws]
theorem strsOf_some:∀ {els:List AV} {ws:List (List Nat)},strsOf els=some ws→els=ws.map .str
 | [],ws,h=>by simp[strsOf]at h;subst h;rfl
 | x::l,ws,h=>by
  cases x<;>simp only[strsOf,reduceCtorEq]at h
  rename_i s
  cases hl:strsOf l with
  | none=>rw[hl]at h;simp at h
  | some m=>
   rw[hl]at h
   simp only[Option.some.injEq]at h
   subst h
   rw[strsOf_some hl]
   rfl
def small62 (n:Nat):Bool:=Nat.blt n 4611686018427387904
def p30:List AV→Option AV
 | [.str s,.int .i64 (.ofNat a),.fn f [] []]=>match predOf f with
  | none=>none
  | some q=>bif small62 s.length&&Nat.ble a s.length then some (.int .i64 ↑(cnt q (s.drop a)))else none
 | _=>none
def p40:List AV→Option AV
 | [.sl _ els,.str v]=>match strsOf els with
  | none=>none
  | some ws=>bif small62 ws.length then some (.int .i64 (idxF v ws 0))else none
 | _=>none
theorem p30_ok:cJ Tryz.prog 140 (aW p30):=by
 refine primPure_ok env3_ok Tryz.func140 (by kernel_rfl) (by kernel_rfl) fun args v hv => ?_
 unfold p30 at hv
 split at hv
 ·rename_i s a f
  cases hq:predOf f with
  | none=>rw[hq]at hv;simp at hv
  | some q=>
   rw[hq]at hv
   simp only at hv
   cases hc:(small62 s.length&&Nat.ble a s.length)with
   | false=>rw[hc]at hv;simp at hv
   | true=>
    rw[hc]at hv
    simp only[cond_true,Option.some.injEq]at hv
    subst hv
    simp only[Bool.and_eq_true]at hc
    exact⟨_,_,_,run30 s a f hq _ (cR.1 hc.1) (Nat.le_of_ble_eq_true hc.2),rfl,rfl⟩
 ·simp at hv
theorem p40_ok:cJ Tryz.prog 34 (aW p40):=by
 refine primPure_ok env3_ok Tryz.func34 (by kernel_rfl) (by kernel_rfl) fun args v hv => ?_
 unfold p40 at hv
 split at hv
 ·rename_i o els u
  cases hq:strsOf els with
  | none=>rw[hq]at hv;simp at hv
  | some ws=>
   rw[hq]at hv
   simp only at hv
   cases hc:small62 ws.length with
   | false=>rw[hc]at hv;simp at hv
   | true=>
    rw[hc]at hv
    simp only[cond_true,Option.some.injEq]at hv
    subst hv
    have:=strsOf_some hq
    subst this
    exact⟨_,_,_,run40 0 o ws u _ (cR.1 hc),rfl,rfl⟩
 ·simp at hv
noncomputable def env4:Env:=bH (bH env3 140 (aW p30)) 34 (aW p40)
theorem env4_ok:dW Tryz.prog env4:=bD (bD env3_ok p30_ok) p40_ok
theorem e4_40:env4.prim 34=some (aW p40):=by kernel_rfl
theorem e4_32:env4.prim 18=none:=by kernel_rfl
theorem f4_32:env4.fns 18=some Tryz.f18:=by kernel_rfl
theorem e4_41:env4.prim 149=none:=by kernel_rfl
theorem f4_41:env4.fns 149=some Tryz.f149:=by kernel_rfl
theorem t4_9:env4.ty 9=some { kind:=TK.str,sz:=1,byt:=16,zero:=some (AV.str []),ag:=false,eqf:=none }:=by kernel_rfl
def pK (v:AV):List AV→Option AV
 | []=>some v
 | _=>none
theorem pK_ok {E:Env} (hE:dW Tryz.prog E) {f k:Nat} {fn:Func} {v:AV} (hfn:Tryz.prog.funcs[f]?=some fn) (hnm:(fn.name == "runtime.NumGoroutine")=false) (hb:fn.body.isNone=false)
  (he:(cG E k f [] ⟨.e,0⟩).map (fun r=>(r.1.forget,r.1.pure))=some (v,true)):cJ Tryz.prog f (aW (pK v)):=by
 refine primPure_ok hE hfn hnm hb fun args u hv => ?_
 unfold pK at hv
 split at hv
 ·simp only[Option.some.injEq]at hv
  subst hv
  obtain⟨r,h1,h2⟩:=Option.map_eq_some_iff.1 he
  simp only[Prod.mk.injEq]at h2
  exact⟨k,r.1,r.2,h1,h2.2,h2.1⟩
 ·simp at hv
theorem words_ok:cJ Tryz.prog 142 (aW (pK (.sl .full (wordsL.map .str)))):=pK_ok (k:=20) env4_ok Tryz.func142 (by kernel_rfl) (by kernel_rfl) (by kernel_rfl)
theorem signs_ok:cJ Tryz.prog 144 (aW (pK (.sl .full (fB.map .str)))):=pK_ok (k:=20) env4_ok Tryz.func144 (by kernel_rfl) (by kernel_rfl) (by kernel_rfl)
theorem rwords_ok:cJ Tryz.prog 128 (aW (pK (.sl .full (wordsL.map .str)))):=pK_ok (k:=20) env4_ok Tryz.func128 (by kernel_rfl) (by kernel_rfl) (by kernel_rfl)
def hasF (v:List Nat) (ws:List (List Nat)):Bool := !ltI (idxF v ws 0) 0
def p32:List AV→Option AV
 | [.sl _ els,.str v]=>match strsOf els with
  | none=>none
  | some ws=>bif small62 ws.length then some (.bool (hasF v ws))else none
 | _=>none
theorem contains_run (o:Own) (ws:List (List Nat)) (v:List Nat) (hl:small62 ws.length=true) (hp:AV.fF (ws.map .str)=true) (k:Nat) :
  cG env4 (k+30) 18 [.sl o (ws.map .str),.str v] ⟨.e,0⟩=some (.bool (hasF v ws),⟨.e,0⟩):=by
 have hc:∀ k,cG env4 (k+1) 34 [.sl o (ws.map .str),.str v] ⟨.e,0⟩=some (.int .i64 (idxF v ws 0),⟨.e,0⟩):=fun k=>by
  rw[evFn_prim e4_40]
  have hf:AV.dJ (ws.map .str)=ws.map .str:=by rw[eY,List.map_map];rfl
  simp[aW,AV.fF,AV.pure,hp,AV.dJ,AV.forget,hf,p40,strsOf_map,hl]
 rw[cG]
 simp[e4_32,f4_32,Tryz.f18,aJ,fD,bC,aX,bA,bT,aL,aN,aG,aZ,val,aH,bN,bP,aU,setArgs,bQ,bS,bJ,aR,aP,bK,hc,hasF]
theorem pures_strs:∀ ws:List (List Nat),AV.fF (ws.map .str)=true
 | []=>rfl
 | w::ws=>by simp[AV.fF,AV.pure,pures_strs ws]
theorem p32_ok:cJ Tryz.prog 18 (aW p32):=by
 refine primPure_ok env4_ok Tryz.func18 (by kernel_rfl) (by kernel_rfl) fun args v hv => ?_
 unfold p32 at hv
 split at hv
 ·rename_i o els u
  cases hq:strsOf els with
  | none=>rw[hq]at hv;simp at hv
  | some ws=>
   rw[hq]at hv
   simp only at hv
   cases hc:small62 ws.length with
   | false=>rw[hc]at hv;simp at hv
   | true=>
    rw[hc]at hv
    simp only[cond_true,Option.some.injEq]at hv
    subst hv
    have:=strsOf_some hq
    subst this
    exact⟨_,_,_,contains_run o ws u hc (pures_strs ws) 0,rfl,rfl⟩
 ·simp at hv
def preF (s p:List Nat):Bool := !ltI ↑s.length ↑p.length&&aB (s.take p.length) p
def p41:List AV→Option AV
 | [.str s,.str p]=>some (.bool (preF s p))
 | _=>none
theorem prefix_run (s p:List Nat) (h:H) (k:Nat):cG env4 (k+30) 149 [.str s,.str p] h=some (.bool (preF s p),h):=by
 rw[cG]
 simp[e4_41,f4_41,Tryz.f149,aJ,fD,bC,aX,bA,bT,aL,aN,aQ,bW,dE,cD,aG,aZ,val,aH,bN,bP,cP,aU,setArgs,bQ,bS,bJ,aR,aP,bK,t4_9]
 cases h1:ltI ↑s.length ↑p.length with
 | true=>simp[fD,preF,h1]
 | false=>
  have hle:p.length≤s.length:=by rw[eN]at h1;simpa using h1
  simp[fD,preF,h1,t4_9,hle]
theorem p41_ok:cJ Tryz.prog 149 (aW p41):=by
 refine primPure_ok env4_ok Tryz.func149 (by kernel_rfl) (by kernel_rfl) fun args v hv => ?_
 unfold p41 at hv
 split at hv
 ·simp only[Option.some.injEq]at hv
  subst hv
  exact⟨_,_,_,prefix_run _ _ _ 0,rfl,rfl⟩
 ·simp at hv
noncomputable def dX:Env:=bH (bH (bH (bH (bH env4 142 (aW (pK (.sl .full (wordsL.map .str))))) 144 (aW (pK (.sl .full (fB.map .str))))) 128 (aW (pK (.sl .full (wordsL.map .str))))) 18 (aW p32)) 149 (aW p41)
theorem env5_ok:dW Tryz.prog dX:=bD (bD (bD (bD (bD env4_ok words_ok) signs_ok) rwords_ok) p32_ok) p41_ok
theorem e5_16:dX.prim 142=some (aW (pK (.sl .full (wordsL.map .str)))):=by kernel_rfl
theorem e5_30:dX.prim 140=some (aW p30):=by kernel_rfl
theorem e5_32:dX.prim 18=some (aW p32):=by kernel_rfl
theorem e5_18:dX.prim 134=none:=by kernel_rfl
theorem f5_18:dX.fns 134=some Tryz.f134:=by kernel_rfl
theorem t5_9:dX.ty 9=some { kind:=TK.str,sz:=1,byt:=16,zero:=some (AV.str []),ag:=false,eqf:=none }:=by kernel_rfl
theorem t5_3:dX.ty 3=some { kind:=TK.int .i64,sz:=1,byt:=8,zero:=some (AV.int .i64 0),ag:=false,eqf:=none }:=by kernel_rfl
theorem t5_33:dX.ty 71=some { kind:=TK.st [(0,1,false),(1,1,false),(2,1,false),(3,1,false)],sz:=4,byt:=40,zero:=some (AV.agg [AV.int IntKind.i64 0,AV.str [],AV.int IntKind.i64 0,AV.int IntKind.i64 0]),ag:=true,eqf:=some [(0,0),(1,1),(2,0),(3,0)] }:=by kernel_rfl
theorem pl5_18:dX.plan 134 3=some [⟨1,false,[]⟩,⟨2,false,[]⟩,⟨0,true,[2]⟩,⟨3,true,[]⟩]:=by kernel_rfl
theorem cnt_le (q:Int→Bool):∀ l:List Nat,cnt q l≤l.length
 | []=>Nat.le_refl _
 | a::l=>by
  simp only[cnt,List.length_cons]
  have:=cnt_le q l
  cases q ↑a<;>simp<;>omega
def fJ (kind:Int) (text:List Nat) (n:Int) (a:Int):AV := .agg [.int .i64 kind,.str text,.int .i64 n,.int .i64 a]
theorem words_call (k:Nat) (h:H):cG dX (k+1) 142 [] h=some (.sl .full (wordsL.map .str),h):=by
 rw[evFn_prim e5_16];simp[aW,AV.fF,AV.dJ,pK]
theorem has_call (k:Nat) (h:H) (v:List Nat):cG dX (k+1) 18 [.sl .full (wordsL.map .str),.str v] h=some (.bool (hasF v wordsL),h):=by
 rw[evFn_prim e5_32]
 have hf:AV.dJ (wordsL.map .str)=wordsL.map .str:=by rw[eY,List.map_map];rfl
 have hs:small62 wordsL.length=true:=by decide
 simp[aW,AV.fF,AV.pure,pures_strs,AV.dJ,AV.forget,hf,p32,strsOf_map,hs]
theorem run_call (k:Nat) (h:H) (s:List Nat) (a f:Nat) {q:Int→Bool} (hq:predOf f=some q) (hl:s.length<4611686018427387904) (ha:a≤s.length) :
  cG dX (k+1) 140 [.str s,.int .i64 ↑a,.fn f [] []] h=some (.int .i64 ↑(cnt q (s.drop a)),h):=by
 rw[evFn_prim e5_30]
 simp[aW,AV.fF,AV.pure,AV.dJ,AV.forget,p30,hq,small62,blt_dec,ble_dec,hl,ha]
def nameKind (t:List Nat):Int:=bif hasF t wordsL then 4 else 1
theorem name_run (s:List Nat) (a:Nat) (hl:s.length<4611686018427387904) (ha:a≤s.length) (k:Nat) :
  ∃ h1,cG dX (k+40) 134 [.str s,.int .i64 ↑a] ⟨.e,0⟩ =
   some (.tup [fJ (nameKind ((s.drop a).take (cnt dR (s.drop a)))) ((s.drop a).take (cnt dR (s.drop a))) 0 ↑a,.int .i64 ↑(cnt dR (s.drop a)),.bool (!ltI 12 ↑(cnt dR (s.drop a)))],h1):=by
 have c1:∀ k h,cG dX (k+1) 140 [.str s,.int .i64 ↑a,.fn 141 [] []] h=some (.int .i64 ↑(cnt dR (s.drop a)),h):=fun k h=>run_call k h s a 141 rfl hl ha
 have hn:=cnt_le dR (s.drop a)
 rw[List.length_drop]at hn
 generalize cnt dR (s.drop a)=n at *
 have hw:wr .i64 (↑a+↑n)=↑(a+n):=by have:=wr_nat (n:=a+n) (by omega);simpa using this
 have hle:a+n≤s.length:=by omega
 generalize hm:a+n=m at *
 have hmn:m-a=n:=by omega
 have ham:a≤m:=by omega
 generalize ht:(s.drop a).take n=t at *
 rw[cG]
 simp only[e5_18,f5_18,Tryz.f134]
 cases hh:hasF t wordsL <;>
  simp[aJ,fD,bC,aX,bA,bT,aL,aN,aQ,bX,bF,bW,dE,cD,aV,AV.cells,aG,aZ,val,aH,bN,bP,aU,bI,recheck,H.new,H.put,cT,aY,bB,AV.one,setArgs,bQ,bS,bJ,aR,aP,bK,c1,words_call,has_call,t5_9,t5_3,t5_33,pl5_18,hw,ham,hle,hmn,ht,hh,fJ,nameKind]
theorem e5_21:dX.prim 137=none:=by kernel_rfl
theorem f5_21:dX.fns 137=some Tryz.f137:=by kernel_rfl
def okText (s:List Nat) (e n:Nat):Bool:=match s[e]? with
 | none=>false
 | some c=>aE ↑c 34 && !ltI 40 ↑n
theorem text_run (s:List Nat) (a:Nat) (hl:s.length<4611686018427387904) (ha:a<s.length) (k:Nat) :
  ∃ h1,cG dX (k+40) 137 [.str s,.int .i64 ↑a] ⟨.e,0⟩ =
   some (.tup [fJ 3 ((s.drop (a+1)).take (cnt dD (s.drop (a+1)))) 0 ↑a,.int .i64 ↑(cnt dD (s.drop (a+1))+2),.bool (okText s (a+1+cnt dD (s.drop (a+1))) (cnt dD (s.drop (a+1))))],h1):=by
 have hw1:wr .i64 (↑a+1)=↑(a+1):=by have:=wr_nat (n:=a+1) (by omega);simpa using this
 have c1:∀ k h,cG dX (k+1) 140 [.str s,.int .i64 ↑(a+1),.fn 143 [] []] h=some (.int .i64 ↑(cnt dD (s.drop (a+1))),h):=fun k h=>run_call k h s (a+1) 143 rfl hl (by omega)
 have hn:=cnt_le dD (s.drop (a+1))
 rw[List.length_drop]at hn
 generalize cnt dD (s.drop (a+1))=n at *
 have hw:wr .i64 (↑(a+1)+↑n)=↑(a+1+n):=by have:=wr_nat (n:=a+1+n) (by omega);simpa using this
 have hw2:wr .i64 (↑n+2)=↑(n+2):=by have:=wr_nat (n:=n+2) (by omega);simpa using this
 have hle:a+1+n≤s.length:=by omega
 have hlt:ltI ↑(a+1+n) ↑s.length=decide (a+1+n<s.length):=eN _ _
 generalize hm:a+1+n=m at *
 have hmn:m-(a+1)=n:=by omega
 have ham:a+1≤m:=by omega
 generalize hn2:n+2=n2 at *
 generalize ha1:a+1=a1 at *
 generalize ht:(s.drop a1).take n=t at *
 rw[cG]
 simp only[e5_21,f5_21,Tryz.f137]
 cases hc:s[m]? with
 | none=>
  have hge:s.length≤m:=List.getElem?_eq_none_iff.1 hc
  have hlt':ltI ↑m ↑s.length=false:=by rw[hlt];simp;exact hge
  simp[aJ,fD,bC,aX,bA,bT,aL,aN,aQ,bX,bF,bW,dE,cD,aV,AV.cells,aG,aZ,val,aH,bN,bP,aU,H.new,H.put,cT,aY,bB,AV.one,setArgs,bQ,bS,bJ,aR,aP,bK,c1,t5_9,t5_33,hw1,hw,hw2,ham,hle,hmn,ht,hlt',fJ,okText,hc]
 | some c=>
  have hlt':ltI ↑m ↑s.length=true:=by rw[hlt];simp;exact aI hc
  cases h34:aE ↑c 34<;>cases h40:ltI 40 ↑n <;>
   simp[aJ,fD,bC,aX,bA,bT,aL,aN,aQ,bX,bF,bW,dE,cD,aV,AV.cells,aG,aZ,val,aH,bN,bP,aU,H.new,H.put,cT,aY,bB,AV.one,setArgs,bQ,bS,bJ,aR,aP,bK,c1,t5_9,t5_33,hw1,hw,hw2,ham,hle,hmn,ht,hlt',hc,h34,h40,fJ,okText]
end Go.Proofs.YtogjplcnmibnlaaGreatDoor.Lx
