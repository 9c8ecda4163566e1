/- The token at a place: the program's. -/
import Derived.Test.YtogjplcnmibnlaaGreatDoorCTLNum
set_option autoImplicit false
set_option maxRecDepth 100000
set_option linter.unusedSimpArgs false
set_option linter.unusedVariables false
namespace Go.Proofs.YtogjplcnmibnlaaGreatDoor.Lx
open Go.Ev Go.Proofs.YtogjplcnmibnlaaGreatDoor.Env
attribute [local simp] bC aX bA bT aL aN aQ bX bF bW dE cD aV AV.cells aG aZ val aH bN bP cP bG eI aU aO aM bY bI recheck H.new H.put cT aY bB AV.one setArgs bQ bS bJ aR aP bK
def nameRes (s:List Nat) (a:Nat):AV:=
 .tup [fJ (nameKind ((s.drop a).take (cnt dR (s.drop a)))) ((s.drop a).take (cnt dR (s.drop a))) 0 ↑a,.int .i64 ↑(cnt dR (s.drop a)),.bool (!ltI 12 ↑(cnt dR (s.drop a)))]
def textRes (s:List Nat) (a:Nat):AV:=
 .tup [fJ 3 ((s.drop (a+1)).take (cnt dD (s.drop (a+1)))) 0 ↑a,.int .i64 ↑(cnt dD (s.drop (a+1))+2),.bool (okText s (a+1+cnt dD (s.drop (a+1))) (cnt dD (s.drop (a+1))))]
def pSA (r:List Nat→Nat→AV):List AV→Option AV
 | [.str s,.int .i64 (.ofNat a)]=>bif Nat.blt s.length 140737488355328&&Nat.blt a s.length then some (r s a)else none
 | _=>none
theorem pSA_ok {E:Env} (hE:dW Tryz.prog E) {f:Nat} {fn:Func} {r:List Nat→Nat→AV} (hfn:Tryz.prog.funcs[f]?=some fn) (hnm:(fn.name == "runtime.NumGoroutine")=false) (hb:fn.body.isNone=false)
  (hr:∀ (s:List Nat) (a:Nat),s.length<140737488355328→a<s.length→∃ k h1,cG E k f [.str s,.int .i64 ↑a] ⟨.e,0⟩=some (r s a,h1)) (hp:∀ s a,(r s a).pure=true∧(r s a).forget=r s a):cJ Tryz.prog f (aW (pSA r)):=by
 refine primPure_ok hE hfn hnm hb fun args v hv => ?_
 unfold pSA at hv
 split at hv
 ·rename_i s a
  cases hc:(Nat.blt s.length 140737488355328&&Nat.blt a s.length)with
  | false=>rw[hc]at hv;simp at hv
  | true=>
   rw[hc]at hv
   simp only[cond_true,Option.some.injEq]at hv
   subst hv
   simp only[Bool.and_eq_true]at hc
   obtain⟨k,h1,he⟩:=hr s a (cR.1 hc.1) (cR.1 hc.2)
   exact⟨k,_,h1,he,(hp s a).1,(hp s a).2⟩
 ·simp at hv
theorem p18_ok:cJ Tryz.prog 134 (aW (pSA nameRes)):=pSA_ok env5_ok Tryz.func134 (by kernel_rfl) (by kernel_rfl) (fun s a h1 h2=>⟨40,name_run s a (by omega) (by omega) 0⟩) (fun s a=>⟨rfl,rfl⟩)
theorem p21_ok:cJ Tryz.prog 137 (aW (pSA textRes)):=pSA_ok env5_ok Tryz.func137 (by kernel_rfl) (by kernel_rfl) (fun s a h1 h2=>⟨40,text_run s a (by omega) h2 0⟩) (fun s a=>⟨rfl,rfl⟩)
theorem p20_ok:cJ Tryz.prog 136 (aW (pSA numRes)):=pSA_ok env5_ok Tryz.func136 (by kernel_rfl) (by kernel_rfl) (fun s a h1 h2=>number_run s a h1 h2) (fun s a=>by unfold numRes;cases numBad s a (cnt cV (s.drop a))<;>exact⟨rfl,rfl⟩)
theorem p22_ok:cJ Tryz.prog 138 (aW (pSA signRes)):=pSA_ok env5_ok Tryz.func138 (by kernel_rfl) (by kernel_rfl) (fun s a h1 h2=>⟨100,sign_run s a (by omega)⟩) (fun s a=>by unfold signRes;cases fQ (s.drop a) fB<;>exact⟨rfl,rfl⟩)
noncomputable def env6:Env:=bH (bH (bH (bH dX 134 (aW (pSA nameRes))) 137 (aW (pSA textRes))) 136 (aW (pSA numRes))) 138 (aW (pSA signRes))
theorem env6_ok:dW Tryz.prog env6:=bD (bD (bD (bD env5_ok p18_ok) p21_ok) p20_ok) p22_ok
theorem e6_13:env6.prim 130=none:=by kernel_rfl
theorem f6_13:env6.fns 130=some Tryz.f130:=by kernel_rfl
theorem e6_17:env6.prim 133=some (aW (pI dH)):=by kernel_rfl
theorem e6_19:env6.prim 135=some (aW (pI cV)):=by kernel_rfl
theorem e6_18:env6.prim 134=some (aW (pSA nameRes)):=by kernel_rfl
theorem e6_20:env6.prim 136=some (aW (pSA numRes)):=by kernel_rfl
theorem e6_21:env6.prim 137=some (aW (pSA textRes)):=by kernel_rfl
theorem e6_22:env6.prim 138=some (aW (pSA signRes)):=by kernel_rfl
theorem t6_9:env6.ty 9=some { kind:=TK.str,sz:=1,byt:=16,zero:=some (AV.str []),ag:=false,eqf:=none }:=by kernel_rfl
theorem t6_33:env6.ty 71=some { kind:=TK.st [(0,1,false),(1,1,false),(2,1,false),(3,1,false)],sz:=4,byt:=40,zero:=some (AV.agg [AV.int IntKind.i64 0,AV.str [],AV.int IntKind.i64 0,AV.int IntKind.i64 0]),ag:=true,eqf:=some [(0,0),(1,1),(2,0),(3,0)] }:=by kernel_rfl
theorem pSA_call {E:Env} {f:Nat} {r:List Nat→Nat→AV} (he:E.prim f=some (aW (pSA r))) (k:Nat) (h:H) (s:List Nat) (a:Nat) (hl:s.length<140737488355328) (ha:a<s.length):cG E (k+1) f [.str s,.int .i64 ↑a] h=some (r s a,h):=by
 rw[evFn_prim he]
 simp[aW,AV.fF,AV.pure,AV.dJ,AV.forget,pSA,blt_dec,hl,ha]
theorem pI_call {E:Env} {f:Nat} {q:Int→Bool} (he:E.prim f=some (aW (pI q))) (k:Nat) (h:H) (c:Int):cG E (k+1) f [.int .u8 c] h=some (.bool (q c),h):=by
 rw[evFn_prim he]
 simp[aW,AV.fF,AV.pure,AV.dJ,AV.forget,pI]
def isTok (v:AV):Prop:=∃ (x1:Int) (x2:List Nat) (x3 x4 n:Int) (b:Bool),v = .tup [.agg [.int .i64 x1,.str x2,.int .i64 x3,.int .i64 x4],.int .i64 n,.bool b]
theorem nameRes_tok (s:List Nat) (a:Nat):isTok (nameRes s a):=⟨_,_,_,_,_,_,rfl⟩
theorem textRes_tok (s:List Nat) (a:Nat):isTok (textRes s a):=⟨_,_,_,_,_,_,rfl⟩
theorem numRes_tok (s:List Nat) (a:Nat):isTok (numRes s a):=by unfold numRes;cases numBad s a (cnt cV (s.drop a))<;>exact⟨_,_,_,_,_,_,rfl⟩
theorem signRes_tok (s:List Nat) (a:Nat):isTok (signRes s a):=by unfold signRes;cases fQ (s.drop a) fB<;>exact⟨_,_,_,_,_,_,rfl⟩
def eW (s:List Nat) (a:Nat):AV:=match s[a]? with
 | none => .tup []
 | some c=>bif dH ↑c then nameRes s a else bif cV ↑c then numRes s a else bif aE ↑c 34 then textRes s a else signRes s a
theorem token_run (s:List Nat) (a:Nat) (hl:s.length<140737488355328) (ha:a<s.length) (k:Nat):∃ h1,cG env6 (k+40) 130 [.str s,.int .i64 ↑a] ⟨.e,0⟩=some (eW s a,h1):=by
 obtain⟨c,hc⟩:∃ c,s[a]?=some c:=⟨_,List.getElem?_eq_getElem ha⟩
 have cn:=fun k h=>pSA_call e6_18 k h s a hl ha
 have cu:=fun k h=>pSA_call e6_20 k h s a hl ha
 have ct:=fun k h=>pSA_call e6_21 k h s a hl ha
 have cs:=fun k h=>pSA_call e6_22 k h s a hl ha
 have cl:=fun k h=>pI_call e6_17 k h ↑c
 have cd:=fun k h=>pI_call e6_19 k h ↑c
 unfold eW
 rw[hc]
 simp only
 rw[cG]
 simp only[e6_13,f6_13,Tryz.f130]
 cases h1:dH ↑c with
 | true=>
  obtain⟨x1,x2,x3,x4,n,b,hx⟩:=nameRes_tok s a
  rw[hx]at cn ⊢
  simp[aJ,fD,t6_9,t6_33,hc,cl,cn,h1]
 | false=>
  cases h2:cV ↑c with
  | true=>
   obtain⟨x1,x2,x3,x4,n,b,hx⟩:=numRes_tok s a
   rw[hx]at cu ⊢
   simp[aJ,fD,t6_9,t6_33,hc,cl,cd,cu,h1,h2]
  | false=>
   cases h3:aE ↑c 34 with
   | true=>
    obtain⟨x1,x2,x3,x4,n,b,hx⟩:=textRes_tok s a
    rw[hx]at ct ⊢
    simp[aJ,fD,t6_9,t6_33,hc,cl,cd,ct,h1,h2,h3]
   | false=>
    obtain⟨x1,x2,x3,x4,n,b,hx⟩:=signRes_tok s a
    rw[hx]at cs ⊢
    simp[aJ,fD,t6_9,t6_33,hc,cl,cd,cs,h1,h2,h3]
noncomputable def env7:Env:=bH env6 130 (aW (pSA eW))
theorem isTok_pure {v:AV} (h:isTok v):v.pure=true∧v.forget=v:=by
 obtain⟨x1,x2,x3,x4,n,b,rfl⟩:=h
 exact⟨rfl,rfl⟩
theorem tokRes_pure (s:List Nat) (a:Nat):(eW s a).pure=true∧(eW s a).forget=eW s a:=by
 unfold eW
 cases s[a]? with
 | none=>exact⟨rfl,rfl⟩
 | some c=>
  simp only
  cases dH ↑c with
  | true=>exact isTok_pure (nameRes_tok s a)
  | false=>
   cases cV ↑c with
   | true=>exact isTok_pure (numRes_tok s a)
   | false=>
    cases aE ↑c 34 with
    | true=>exact isTok_pure (textRes_tok s a)
    | false=>exact isTok_pure (signRes_tok s a)
theorem p13_ok:cJ Tryz.prog 130 (aW (pSA eW)):=pSA_ok env6_ok Tryz.func130 (by kernel_rfl) (by kernel_rfl) (fun s a h1 h2=>⟨40,token_run s a h1 h2 0⟩) tokRes_pure
theorem env7_ok:dW Tryz.prog env7:=bD env6_ok p13_ok
theorem e7_13:env7.prim 130=some (aW (pSA eW)):=by kernel_rfl
theorem t7_9:env7.ty 9=some { kind:=TK.str,sz:=1,byt:=16,zero:=some (AV.str []),ag:=false,eqf:=none }:=by kernel_rfl
theorem t7_22:env7.ty 63=some { kind:=TK.sl 71,sz:=1,byt:=24,zero:=some (AV.sl Own.full []),ag:=false,eqf:=none }:=by kernel_rfl
theorem t7_33:env7.ty 71=some { kind:=TK.st [(0,1,false),(1,1,false),(2,1,false),(3,1,false)],sz:=4,byt:=40,zero:=some (AV.agg [AV.int IntKind.i64 0,AV.str [],AV.int IntKind.i64 0,AV.int IntKind.i64 0]),ag:=true,eqf:=some [(0,0),(1,1),(2,0),(3,0)] }:=by kernel_rfl
noncomputable def b8:Code:=aK Tryz.f120 0
def isBlank (c:Nat):Bool:=aE ↑c 32||(aE ↑c 9||aE ↑c 10)
structure R8 (s:List Nat) (a:Nat) (o:Own) (l:List AV) (tm:Tm):Prop where
 g0:tm.get 0=some (.str s)
 g2:tm.get 2=some (.sl o l)
 g3:tm.get 3=some (.int .i64 ↑a)
theorem blank8 (call:fO) (s:List Nat) (a:Nat) (o:Own) (l:List AV) (tm:Tm) (h:H) (k:Nat) (c:Nat) (R:R8 s a o l tm) (hl:s.length<4611686018427387904) (hc:s[a]?=some c) (hb:isBlank c=true) :
  ∃ tm',aJ call env7 120 56 (k+20) b8 tm h=some (.normal,tm',h)∧R8 s (a+1) o l tm':=by
 obtain⟨h0,h2,h3⟩:=R
 have hil:=aI hc
 have hw2:wr .i64 (↑a+1)=↑(a+1):=by have:=wr_nat (n:=a+1) (by omega);simpa using this
 have hlt':ltI ↑a ↑s.length=true:=by rw[eN];simp[hil]
 generalize hm':a+1=m' at *
 have fin:∀ tm',R8 s m' o l tm'↔(tm'.get 0=some (.str s)∧tm'.get 2=some (.sl o l)∧tm'.get 3=some (.int .i64 ↑m')):=fun tm'=>⟨fun r=>⟨r.g0,r.g2,r.g3⟩,fun r=>⟨r.1,r.2.1,r.2.2⟩⟩
 simp only[b8,aK,Tryz.f120,loops,List.nil_append,List.append_nil]
 simp only[isBlank]at hb
 cases e1:aE ↑c 32<;>cases e2:aE ↑c 9<;>cases e3:aE ↑c 10<;>simp[e1,e2,e3]at hb <;>
  simp[aJ,fD,h0,h2,h3,t7_9,hw2,hlt',hc,e1,e2,e3,fin]
theorem stop8 (call:fO) (s:List Nat) (a:Nat) (o:Own) (l:List AV) (tm:Tm) (h:H) (k:Nat) (R:R8 s a o l tm) (hs:s.length≤a) :
  ∃ tm',aJ call env7 120 56 (k+20) b8 tm h=some (.exit 0,tm',h)∧R8 s a o l tm':=by
 obtain⟨h0,h2,h3⟩:=R
 have hlt':ltI ↑a ↑s.length=false:=by rw[eN];simp[hs]
 have fin:∀ tm',R8 s a o l tm'↔(tm'.get 0=some (.str s)∧tm'.get 2=some (.sl o l)∧tm'.get 3=some (.int .i64 ↑a)):=fun tm'=>⟨fun r=>⟨r.g0,r.g2,r.g3⟩,fun r=>⟨r.1,r.2.1,r.2.2⟩⟩
 simp only[b8,aK,Tryz.f120,loops,List.nil_append,List.append_nil]
 simp[aJ,fD,h0,h2,h3,t7_9,hlt',fin]
theorem err8 (K:Nat) (s:List Nat) (a:Nat) (o:Own) (l:List AV) (tm:Tm) (h:H) (k:Nat) (c:Nat) (R:R8 s a o l tm) (hl:s.length<140737488355328) (hc:s[a]?=some c) (hb:isBlank c=false)
  (x1:Int) (x2:List Nat) (x3 x4 n:Int) (ht:eW s a = .tup [.agg [.int .i64 x1,.str x2,.int .i64 x3,.int .i64 x4],.int .i64 n,.bool false]) :
  ∃ tm' h',aJ (cG env7 (K+1)) env7 120 56 (k+20) b8 tm h=some (.ret,tm',h')∧tm'.get 2=some (.sl .full [])∧tm'.get 3=some (.int .i64 ↑a)∧tm'.get 4=some (.int .i64 2):=by
 obtain⟨h0,h2,h3⟩:=R
 have hil:=aI hc
 have hlt':ltI ↑a ↑s.length=true:=by rw[eN];simp[hil]
 have ct:=fun h=>pSA_call e7_13 K h s a hl hil
 rw[ht]at ct
 simp only[b8,aK,Tryz.f120,loops,List.nil_append,List.append_nil]
 simp only[isBlank]at hb
 cases e1:aE ↑c 32<;>cases e2:aE ↑c 9<;>cases e3:aE ↑c 10<;>simp[e1,e2,e3]at hb
 simp[aJ,fD,h0,h3,t7_9,t7_33,hlt',hc,e1,e2,e3,ct]
def Row (h:H) (o:Own) (l:List AV):Prop:=(o = .full∧l=[])∨∃ id,o = .ch id∧h.t.get id=some (.chain l.length 71 4)∧id<h.nx
theorem tok8 (K:Nat) (s:List Nat) (a:Nat) (o:Own) (l:List AV) (tm:Tm) (h:H) (k:Nat) (c:Nat) (R:R8 s a o l tm) (hl:s.length<140737488355328) (hc:s[a]?=some c) (hb:isBlank c=false)
  (x1:Int) (x2:List Nat) (x3 x4:Int) (n:Nat) (ht:eW s a = .tup [.agg [.int .i64 x1,.str x2,.int .i64 x3,.int .i64 x4],.int .i64 ↑n,.bool true]) (han:a+n≤s.length) (hr:Row h o l) (hll:l.length≤1000000) (hs:aM 4 l=true) :
  ∃ tm' h' o',aJ (cG env7 (K+1)) env7 120 56 (k+20) b8 tm h=some (.normal,tm',h')∧R8 s (a+n) o' (l++[.agg [.int .i64 x1,.str x2,.int .i64 x3,.int .i64 x4]]) tm'∧Row h' o' (l++[.agg [.int .i64 x1,.str x2,.int .i64 x3,.int .i64 x4]]):=by
 obtain⟨h0,h2,h3⟩:=R
 have hil:=aI hc
 have hlt':ltI ↑a ↑s.length=true:=by rw[eN];simp[hil]
 have hw:wr .i64 (↑a+↑n)=↑(a+n):=by have:=wr_nat (n:=a+n) (by omega);simpa using this
 have ct:=fun h=>pSA_call e7_13 K h s a hl hil
 rw[ht]at ct
 have hby:(l.length+1)*40≤140737488355328:=by omega
 generalize hm:a+n=m at *
 simp only[isBlank]at hb
 rcases hr with ⟨rfl,rfl⟩|⟨id,rfl,hg,hid⟩
 ·simp only[b8,aK,Tryz.f120,loops,List.nil_append,List.append_nil]
  cases e1:aE ↑c 32<;>cases e2:aE ↑c 9<;>cases e3:aE ↑c 10<;>simp[e1,e2,e3]at hb
  simp[aJ,fD,MTC,h0,h2,h3,t7_9,t7_22,t7_33,hlt',hc,e1,e2,e3,ct,hw]
  refine⟨_,_,⟨rfl,rfl⟩,.ch (h.nx+1),⟨?_,?_,?_⟩,.inr ⟨h.nx+1,rfl,?_,?_⟩⟩<;>simp[T.aA,h0]
 ·simp only[b8,aK,Tryz.f120,loops,List.nil_append,List.append_nil]
  have hne:id≠h.nx:=by omega
  cases e1:aE ↑c 32<;>cases e2:aE ↑c 9<;>cases e3:aE ↑c 10<;>simp[e1,e2,e3]at hb
  simp[aJ,fD,MTC,h0,h2,h3,t7_9,t7_22,t7_33,hlt',hc,e1,e2,e3,ct,hw,hg,hne,hs,hby]
  refine⟨_,_,⟨rfl,rfl⟩,.ch id,⟨?_,?_,?_⟩,.inr ⟨id,rfl,?_,?_⟩⟩<;>simp[T.aA,h0]<;>omega
end Go.Proofs.YtogjplcnmibnlaaGreatDoor.Lx
namespace Go.Proofs.YtogjplcnmibnlaaGreatDoor.Lx
open Go.Ev Go.Proofs.YtogjplcnmibnlaaGreatDoor.Env
theorem cnt_pos {q:Int→Bool} {s:List Nat} {a c:Nat} (hc:s[a]?=some c) (hq:q ↑c=true):0<cnt q (s.drop a):=by
 have h:s.drop a=c::s.drop (a+1):=by
  have hlt:=aI hc
  rw[List.drop_eq_getElem_cons hlt]
  rw[List.getElem?_eq_getElem hlt]at hc
  simp only[Option.some.injEq]at hc
  rw[hc]
 rw[h]
 simp[cnt,hq]
theorem firstF_len {d:List Nat}:∀ {ws:List (List Nat)} {w:List Nat},fQ d ws=some w→w∈ws∧w.length≤d.length
 | [],w,h=>by simp[fQ]at h
 | x::l,w,h=>by
  simp only[fQ]at h
  cases hb:preF d x with
  | true=>
   rw[hb]at h
   simp only[cond_true,Option.some.injEq]at h
   subst h
   refine⟨List.mem_cons_self ..,?_⟩
   simp only[preF,Bool.and_eq_true,Bool.not_eq_true']at hb
   have:=hb.1
   rw[eN]at this
   simpa using this
  | false=>
   rw[hb]at h
   obtain⟨h1,h2⟩:=firstF_len h
   exact⟨List.mem_cons_of_mem _ h1,h2⟩
theorem tok_len {s:List Nat} {a c:Nat} (hc:s[a]?=some c) {t:AV} {n:Int} (h:eW s a = .tup [t,.int .i64 n,.bool true]):∃ m:Nat,n=↑m∧0<m∧a+m≤s.length:=by
 have hlt:=aI hc
 unfold eW at h
 rw[hc]at h
 simp only at h
 cases h1:dH ↑c with
 | true=>
  rw[h1]at h
  simp only[cond_true,nameRes,AV.tup.injEq,List.cons.injEq,AV.int.injEq,true_and]at h
  have hp:=cnt_pos (q:=dR) hc (by simp[dR,h1])
  have hl:=cnt_le dR (s.drop a)
  rw[List.length_drop]at hl
  exact⟨_,h.2.1.symm,hp,by omega⟩
 | false=>
  rw[h1]at h
  cases h2:cV ↑c with
  | true=>
   rw[h2]at h
   simp only[cond_true,cond_false,numRes]at h
   have hp:=cnt_pos (q:=cV) hc h2
   have hl:=cnt_le cV (s.drop a)
   rw[List.length_drop]at hl
   cases hb:numBad s a (cnt cV (s.drop a))with
   | true=>rw[hb]at h;simp at h
   | false=>
    rw[hb]at h
    simp only[cond_false,AV.tup.injEq,List.cons.injEq,AV.int.injEq,true_and]at h
    exact⟨_,h.2.1.symm,hp,by omega⟩
  | false=>
   rw[h2]at h
   cases h3:aE ↑c 34 with
   | true=>
    rw[h3]at h
    simp only[cond_true,cond_false,textRes,AV.tup.injEq,List.cons.injEq,AV.int.injEq,true_and,AV.bool.injEq,and_true]at h
    have hl:=cnt_le dD (s.drop (a+1))
    rw[List.length_drop]at hl
    obtain⟨_,h5,h6⟩:=h
    unfold okText at h6
    cases he:s[a+1+cnt dD (s.drop (a+1))]? with
    | none=>rw[he]at h6;simp at h6
    | some e=>
     have:=aI he
     exact⟨cnt dD (s.drop (a+1))+2,by rw[←h5],by omega,by omega⟩
   | false=>
    rw[h3]at h
    simp only[cond_false,signRes]at h
    cases hf:fQ (s.drop a) fB with
    | none=>rw[hf]at h;simp at h
    | some w=>
     rw[hf]at h
     simp only[AV.tup.injEq,List.cons.injEq,AV.int.injEq,true_and]at h
     obtain⟨g1,g2⟩:=firstF_len hf
     have hw:∀ w∈fB,0<w.length:=by decide
     have:=hw w g1
     rw[List.length_drop]at g2
     exact⟨_,h.2.1.symm,this,by omega⟩
theorem e7ty:env7.ty=env.ty:=rfl
theorem e7pl:env7.plan=env.plan:=rfl
theorem rwordsL (h:H):evL env7 128 [] h=some (.sl .full (wordsL.map .str),h):=by
  rw[evL_prim env7 (f:=128) (p:=aW (pK (.sl .full (wordsL.map .str)))) (by kernel_rfl)];rfl
noncomputable def b36_0:Code:=aK Tryz.f118 0
theorem body36:Tryz.f118.body=some (.seq (aC Tryz.f118 [0]) (.seq (aC Tryz.f118 [1,0]) (.seq (.seq (aC Tryz.f118 [1,1,0,0]) (.block 0 (.loop b36_0))) (aC Tryz.f118 [1,1,1])))):=rfl
theorem loop36 {v : List Nat} {ws : List (List Nat)} (hl : ws.length < 4611686018427387904) : ∀ (l : List (List Nat)) (i : Nat) {tm : Tm} {h : H} {x : Option (Ex × Tm × H)}, cdL env7 118 18 (.loop b36_0) tm h = x → l = ws.drop i → i ≤ ws.length →
    tm.get 0=some (.str v)→tm.get 3=some (.sl .full (ws.map .str))→tm.get 4=some (.int .i64 ↑i)→∃ tm',x=some (bif l.any (aB · v)then .ret else .exit 0,tm',h)∧(l.any (aB · v)=true→tm'.get 2=some (.bool true))
  | [],i,tm,h,x,hx,hd,hi,h0,h3,h4=>by
    have hlen:ws.length=i:=by have:=congrArg List.length hd;simp at this;omega
    obtain⟨R,hR,hx⟩:=aS hx
    simp[b36_0,aK,Tryz.f118,loops,EVT,bC,aX,bA,bT,aL,aN,aQ,aG,aZ,val,aH,bN,bP,aU,aP,bK,TYC,lp,e7ty,h3,h4,eN,hlen]at hx
    exact⟨_,by rw[←hx];rfl,by simp⟩
  | w::l,i,tm,h,x,hx,hd,hi,h0,h3,h4=>by
    have hlt:i<ws.length:=by have:=congrArg List.length hd;simp at this;omega
    have hw : ws[i]? = some w := by have : (ws.drop i)[0]? = some w := by rw [← hd]; rfl
                                    simpa using this
    have hd':l=ws.drop (i+1):=by have:=congrArg List.tail hd;simpa[List.tail_drop]using this
    obtain⟨R,hR,hx⟩:=aS hx
    cases hb:aB w v with
    | true=>
      simp[b36_0,aK,Tryz.f118,loops,EVT,bC,aX,bA,bT,aL,aN,aQ,aV,AV.cells,aG,aZ,val,aH,bN,bP,cP,aU,bJ,aR,aP,bK,TYC,lp,e7ty,h0,h3,h4,eR hlt,hw,hb]at hx
      exact⟨_,by rw[←hx];simp[hb];rfl,by simp[T.aA]⟩
    | false=>
      simp[b36_0,aK,Tryz.f118,loops,EVT,bC,aX,bA,bT,aL,aN,aQ,aV,AV.cells,aG,aZ,val,aH,bN,bP,cP,aU,bJ,aR,aP,bK,TYC,lp,e7ty,h0,h3,h4,eR hlt,hw,hb,cH (i:=i) (by omega)]at hx
      rw[hR]at hx
      simp only[List.any_cons,hb,Bool.false_or]
      exact loop36 hl l (i+1) hx hd' hlt (by simp[T.aA,h0]) (by simp[T.aA,h3]) (by simp[T.aA])
theorem word_run (v:List Nat):∃ h1,evL env7 118 [.str v] ⟨.e,0⟩=some (.bool (wordsL.any (aB · v)),h1):=by
  rw[bE env7 (by kernel_rfl) (by kernel_rfl) body36 _ _ rfl]
  simp only[aC,sub,Tryz.f118]
  simp[EVT,aT,bC,aX,bA,bT,aL,aN,aG,aZ,val,aH,setArgs,bQ,bS,bJ,aR,rwordsL]
  generalize hx:cdL env7 118 18 (.loop b36_0) _ _=x
  obtain⟨tm',rfl,g⟩:=loop36 (v:=v) (ws:=wordsL) (by decide) wordsL 0 hx rfl (by decide) (by simp[T.aA]) (by simp[T.aA]) (by simp[T.aA])
  cases hb:wordsL.any (aB · v)with
  | true=>simp[g hb]
  | false=>simp[EVT]
noncomputable def b37_0:Code:=aK Tryz.f98 0
theorem body37:Tryz.f98.body=some (.seq (aC Tryz.f98 [0]) (.seq (.seq (aC Tryz.f98 [1,0,0]) (.block 0 (.loop b37_0))) (aC Tryz.f98 [1,1]))):=rfl
def allP (l:List Nat):Bool:=l.all fun c=>dD ↑c
theorem loop37 {s:List Nat} (hl:s.length<4611686018427387904):∀ (l:List Nat) (i:Nat) {tm:Tm} {h:H} {x:Option (Ex × Tm × H)},cdL env7 98 29 (.loop b37_0) tm h=x→l=s.drop i→i≤s.length →
  tm.get 0=some (.str s)→tm.get 3=some (.int .i64 ↑i)→∃ tm',x=some (bif allP l then .exit 0 else .ret,tm',h)∧(allP l=true→tm'.get 0=some (.str s))∧(allP l=false→tm'.get 2=some (.bool false))
 | [],i,tm,h,x,hx,hd,hi,h0,h3=>by
  have hlen:=dnil hd hi
  obtain⟨R,hR,hx⟩:=aS hx
  simp[b37_0,aK,Tryz.f98,loops,EVT,bC,aX,bA,bT,aL,aN,aQ,aG,aZ,val,aH,bN,bP,aU,aP,bK,TYC,lp,e7ty,h0,h3,hlen,dZ]at hx
  exact⟨_,by rw[←hx];rfl,by simp[T.aA,h0],by simp[allP]⟩
 | c::l,i,tm,h,x,hx,hd,hi,h0,h3=>by
  obtain⟨hlt,hc,hd'⟩:=gC hd
  obtain⟨R,hR,hx⟩:=aS hx
  have hlt':=eR hlt
  have hw:=cH (i:=i) (by omega)
  cases h1:ltI ↑c 32<;>cases h2:ltI 126 ↑c<;>cases h3':aE ↑c 34 <;>
   simp[b37_0,aK,Tryz.f98,loops,EVT,bC,aX,bA,bT,aL,aN,aQ,aG,aZ,val,aH,bN,bP,aU,bJ,aR,aP,bK,TYC,lp,e7ty,h0,h3,hlt',hc,h1,h2,h3',hw]at hx
  case false.false.false=>
   rw[hR]at hx
   have e:allP (c::l)=allP l:=by simp[allP,dD,h1,h2,h3']
   rw[e]
   exact loop37 hl l (i+1) hx hd' hlt (by simp[T.aA,h0]) (by simp[T.aA])
  all_goals
   have e:allP (c::l)=false:=by simp[allP,dD,h1,h2,h3']
   rw[e]
   exact⟨_,by rw[←hx];rfl,by simp,by simp[T.aA]⟩
def okT (s:List Nat):Bool:=allP s && !ltI 40 ↑s.length
theorem rtext_run (s:List Nat) (hl:s.length<4611686018427387904):∃ h1,evL env7 98 [.str s] ⟨.e,0⟩=some (.bool (okT s),h1):=by
 rw[bE env7 (by kernel_rfl) (by kernel_rfl) body37 _ _ rfl]
 simp only[aC,sub,Tryz.f98]
 simp[EVT,aT,bC,aX,bA,bT,aL,aN,aQ,aG,aZ,val,aH,bN,bP,cP,aU,setArgs,bQ,bS,bJ,aR,aP,bK,TYC,e7ty]
 generalize hx:cdL env7 98 29 (.loop b37_0) _ _=x
 obtain⟨tm',rfl,g1,g2⟩:=loop37 (s:=s) hl s 0 hx rfl (Nat.zero_le _) (by simp[T.aA]) (by simp[T.aA])
 cases hb:allP s with
 | true=>simp[EVT,TYC,g1 hb,okT,hb]
 | false=>simp[g2 hb,okT,hb]
def lenOk (s:List Nat):Bool:=Nat.blt s.length 140737488355328
theorem lenOk_iff {s:List Nat}:lenOk s=true↔s.length<140737488355328:=by simp[lenOk,blt_dec]
def pS (q:List Nat→Bool) (r:List Nat→AV):List AV→Option AV
 | [.str s]=>bif q s then some (r s)else none
 | _=>none
theorem pS_ok {E:Env} (hE:dW Tryz.prog E) {f:Nat} {fn:Func} {q:List Nat→Bool} {r:List Nat→AV} (hfn:Tryz.prog.funcs[f]?=some fn) (hnm:(fn.name == "runtime.NumGoroutine")=false) (hb:fn.body.isNone=false)
  (hr:∀ s,q s=true→(∃ h1,evL E f [.str s] ⟨.e,0⟩=some (r s,h1))∧(r s).pure=true∧(r s).forget=r s):cJ Tryz.prog f (aW (pS q r)):=by
 refine pureL_ok hE hfn hnm hb fun args v hv => ?_
 unfold pS at hv
 split at hv
 ·rename_i s
  cases hq:q s with
  | false=>rw[hq]at hv;simp at hv
  | true=>
   rw[hq]at hv
   simp only[cond_true,Option.some.injEq]at hv
   subst hv
   obtain⟨⟨h1,e⟩,h2,h3⟩:=hr s hq
   exact⟨_,h1,e,h2,h3⟩
 ·simp at hv
theorem pS_call {E:Env} {f:Nat} {q:List Nat→Bool} {r:List Nat→AV} (he:E.prim f=some (aW (pS q r))) (h:H) (s:List Nat) (hq:q s=true):evL E f [.str s] h=some (r s,h):=by
 rw[evL_prim E he]
 simp[aW,AV.fF,AV.pure,AV.dJ,AV.forget,pS,hq]
def isW (v:List Nat):Bool:=wordsL.any (aB · v)
noncomputable def env8:Env:=bH (bH env7 118 (aW (pS lenOk fun s => .bool (isW s)))) 98 (aW (pS lenOk fun s => .bool (okT s)))
theorem env8_ok:dW Tryz.prog env8:=
 bD (bD env7_ok
  (pS_ok env7_ok Tryz.func118 (by kernel_rfl) (by kernel_rfl) fun s _=>⟨word_run s,rfl,rfl⟩))
  (pS_ok env7_ok Tryz.func98 (by kernel_rfl) (by kernel_rfl) fun s hs=>⟨rtext_run s (by have:=lenOk_iff.1 hs;omega),rfl,rfl⟩)
theorem e8ty:env8.ty=env.ty:=rfl
theorem e8pl:env8.plan=env.plan:=rfl
theorem e8_36 (h:H) (s:List Nat) (hs:lenOk s=true):evL env8 118 [.str s] h=some (.bool (isW s),h):=pS_call (r:=fun s => .bool (isW s)) (by kernel_rfl) h s hs
theorem e8_37 (h:H) (s:List Nat) (hs:lenOk s=true):evL env8 98 [.str s] h=some (.bool (okT s),h):=pS_call (r:=fun s => .bool (okT s)) (by kernel_rfl) h s hs
theorem e8_23 (c:Int) (h:H):evL env8 85 [.int .u8 c] h=some (.bool (dH c),h):=by
 rw[evL_prim env8 (f:=85) (p:=aW (pI dH)) (by kernel_rfl)];rfl
theorem e8_25 (c:Int) (h:H):evL env8 87 [.int .u8 c] h=some (.bool (cV c),h):=by
 rw[evL_prim env8 (f:=87) (p:=aW (pI cV)) (by kernel_rfl)];rfl
noncomputable def b24_0:Code:=aK Tryz.f86 0
theorem body24:Tryz.f86.body=some (.seq (aC Tryz.f86 [0]) (.seq (aC Tryz.f86 [1,0]) (.seq (.block 0 (.loop b24_0)) (aC Tryz.f86 [1,1,1])))):=rfl
theorem loop24 {s:List Nat} (hl:s.length<4611686018427387904):∀ (l:List Nat) (i:Nat) {tm:Tm} {h:H} {x:Option (Ex × Tm × H)},cdL env8 86 52 (.loop b24_0) tm h=x→l=s.drop i→i≤s.length →
  tm.get 0=some (.str s)→tm.get 4=some (.int .i64 ↑i)→∃ tm',x=some (.exit 0,tm',h)∧tm'.get 0=some (.str s)∧tm'.get 2=tm.get 2∧tm'.get 4=some (.int .i64 ↑(i+cnt dR l))
 | [],i,tm,h,x,hx,hd,hi,h0,h4=>by
  have hlen:=dnil hd hi
  obtain⟨R,hR,hx⟩:=aS hx
  simp[b24_0,aK,Tryz.f86,loops,EVT,bC,aX,bA,bT,aL,aN,aQ,aG,aZ,val,aH,bN,bP,aU,bJ,aR,aP,bK,TYC,lp,e8ty,h0,h4,hlen,dZ]at hx
  exact⟨_,by rw[←hx],by simp[T.aA,h0],by simp[T.aA],by simp[T.aA,cnt,h4]⟩
 | c::l,i,tm,h,x,hx,hd,hi,h0,h4=>by
  obtain⟨hlt,hc,hd'⟩:=gC hd
  obtain⟨R,hR,hx⟩:=aS hx
  have hlt':=eR hlt
  have hw:=cH (i:=i) (by omega)
  have hm:dR ↑c=(dH ↑c||(cV ↑c||(aE ↑c 95||aE ↑c 39))):=rfl
  have key:x=R tm h→True:=fun _=>trivial
  cases h1:dH ↑c<;>cases h2:cV ↑c<;>cases h3:aE ↑c 95<;>cases h5:aE ↑c 39 <;>
   simp[b24_0,aK,Tryz.f86,loops,EVT,bC,aX,bA,bT,aL,aN,aQ,aG,aZ,val,aH,bN,bP,aU,bJ,aR,aP,bK,TYC,lp,e8ty,e8_23,e8_25,h0,h4,hlt',hc,h1,h2,h3,h5,hw]at hx
  case false.false.false.false=>
   have e:cnt dR (c::l)=0:=by simp[cnt,hm,h1,h2,h3,h5]
   rw[e]
   exact⟨_,by rw[←hx],by simp[T.aA,h0],by simp[T.aA],by simp[T.aA,h4]⟩
  all_goals
   rw[hR]at hx
   have e:cnt dR (c::l)=cnt dR l+1:=by simp[cnt,hm,h1,h2,h3,h5]
   obtain⟨tm',g0,g1,g2,g3⟩:=loop24 hl l (i+1) hx hd' hlt (by simp[T.aA,h0]) (by simp[T.aA])
   exact⟨tm',g0,g1,by rw[g2];simp[T.aA],by rw[g3,e];simp[Nat.add_assoc,Nat.add_comm 1]⟩
def rname (s:List Nat):AV:=
 let n:=1+cnt dR (s.drop 1)
 bif isW (s.take n)then .tup [fJ 4 (s.take n) 0 0,.int .i64 ↑n]else bif ltI 12 ↑n then .tup [fJ 0 [] 0 0,.int .i64 0]else .tup [fJ 1 (s.take n) 0 0,.int .i64 ↑n]
theorem rname_run (s:List Nat) (hl:s.length<140737488355328) (hs:0<s.length):∃ h1,evL env8 86 [.str s] ⟨.e,0⟩=some (rname s,h1):=by
 rw[bE env8 (by kernel_rfl) (by kernel_rfl) body24 _ _ rfl]
 simp only[aC,sub,Tryz.f86]
 simp[EVT,aT,bC,aX,bA,bT,aL,aN,aQ,bX,bF,bW,dE,cD,aV,AV.cells,aG,aZ,val,aH,bN,bP,cP,aU,H.new,H.put,cT,setArgs,bQ,bS,bJ,aR,aP,bK,TYC,e8ty]
 generalize hx:cdL env8 86 52 (.loop b24_0) _ _=x
 obtain⟨tm',rfl,g0,g2,g4⟩:=loop24 (s:=s) (by omega) (s.drop 1) 1 hx rfl hs (by simp[T.aA]) (by simp[T.aA])
 simp[T.aA]at g2
 have hn:=cnt_le dR (s.drop 1)
 rw[List.length_drop]at hn
 unfold rname
 simp only
 generalize hm:1+cnt dR (s.drop 1)=m at *
 have hm1:m≤s.length:=by omega
 have ht:lenOk (s.take m)=true:=lenOk_iff.2 (by simp;omega)
 have w1:=fun h=>e8_36 h (s.take m) ht
 cases h1:isW (s.take m)with
 | true=>simp[EVT,AV.cells,cT,aY,bB,AV.one,g0,g2,g4,hm1,w1,h1,fJ]
 | false=>
  cases h2:ltI 12 ↑m with
  | true=>simp[EVT,AV.cells,cT,aY,bB,AV.one,g0,g2,g4,hm1,w1,h1,h2,fJ]
  | false=>simp[EVT,AV.cells,cT,aY,bB,AV.one,g0,g2,g4,hm1,w1,h1,h2,fJ]
theorem cd_of {E:Env} {f n k1 k2:Nat} {c:Code} {tm:Tm} {h:H} {r:Ex × Tm × H} (he:aJ (cG E k1) E f n k2 c tm h=some r):cdL E f n c tm h=some r:=
 (eE E f n tm h).2 ⟨max k1 k2,up E f n (Nat.le_max_left ..) he _ (Nat.le_max_right ..)⟩
def tokish (t:AV):Prop:=∃ (x1:Int) (x2:List Nat) (x3 x4:Int),t = .agg [.int .i64 x1,.str x2,.int .i64 x3,.int .i64 x4]
def tokAt (s:List Nat) (i:Nat):Option (AV × Nat):=match eW s i with
 | .tup [t,.int .i64 (.ofNat n),.bool true]=>some (t,n)
 | _=>none
def lx:Nat→List Nat→Nat→List AV→List AV × Option Nat
 | 0,_,_,l=>(l,none)
 | f+1,s,i,l=>match s[i]? with
  | none=>(l,none)
  | some c=>bif isBlank c then lx f s (i+1) l else match tokAt s i with
   | some (t,n)=>lx f s (i+n) (l++[t])
   | none=>([],some i)
theorem tokRes_cases {s:List Nat} {i c:Nat} (hc:s[i]?=some c) :
  (∃ (x1:Int) (x2:List Nat) (x3 x4:Int) (n:Nat),eW s i = .tup [.agg [.int .i64 x1,.str x2,.int .i64 x3,.int .i64 x4],.int .i64 ↑n,.bool true]∧0<n∧i+n≤s.length∧tokAt s i=some (.agg [.int .i64 x1,.str x2,.int .i64 x3,.int .i64 x4],n)) ∨
  (∃ (x1:Int) (x2:List Nat) (x3 x4 n:Int),eW s i = .tup [.agg [.int .i64 x1,.str x2,.int .i64 x3,.int .i64 x4],.int .i64 n,.bool false]∧tokAt s i=none):=by
 have ht:isTok (eW s i):=by
  unfold eW
  rw[hc]
  simp only
  cases dH ↑c with
  | true=>exact nameRes_tok s i
  | false=>
   cases cV ↑c with
   | true=>exact numRes_tok s i
   | false=>
    cases aE ↑c 34 with
    | true=>exact textRes_tok s i
    | false=>exact signRes_tok s i
 obtain⟨x1,x2,x3,x4,n,b,e⟩:=ht
 cases b with
 | true=>
  obtain⟨m,rfl,h1,h2⟩:=tok_len hc e
  exact .inl ⟨x1,x2,x3,x4,m,e,h1,h2,by unfold tokAt;rw[e]⟩
 | false=>exact .inr ⟨x1,x2,x3,x4,n,e,by unfold tokAt;rw[e];cases n<;>rfl⟩
def Good (l:List AV):Prop:=∀ t∈l,tokish t
theorem good_sizes:∀ {l:List AV},Good l→aM 4 l=true
 | [],_=>rfl
 | t::l,h=>by
  obtain⟨x1,x2,x3,x4,rfl⟩:=h t (List.mem_cons_self ..)
  simp[aM,AV.cells,good_sizes (fun t ht=>h t (List.mem_cons_of_mem _ ht))]
theorem good_add {l:List AV} (h:Good l) {t:AV} (ht:tokish t):Good (l++[t]):=by
 intro u hu
 rcases List.mem_append.1 hu with hu|hu
 ·exact h u hu
 ·rw[List.mem_singleton.1 hu];exact ht
theorem lp_n {E:Env} {f n:Nat} {b:Code} {tm tm':Tm} {h h':H} (hb:cdL E f n b tm h=some (.normal,tm',h')):cdL E f n (.loop b) tm h=cdL E f n (.loop b) tm' h':=by
 rw[cdL_loop,hb]
theorem lp_e {E:Env} {f n j:Nat} {b:Code} {tm tm':Tm} {h h':H} (hb:cdL E f n b tm h=some (.exit j,tm',h')):cdL E f n (.loop b) tm h=some (.exit j,tm',h'):=by
 rw[cdL_loop,hb]
theorem lp_r {E:Env} {f n:Nat} {b:Code} {tm tm':Tm} {h h':H} (hb:cdL E f n b tm h=some (.ret,tm',h')):cdL E f n (.loop b) tm h=some (.ret,tm',h'):=by
 rw[cdL_loop,hb]
theorem loop8 {s:List Nat} (hl:s.length≤100000):∀ (f i:Nat) (o:Own) (l:List AV) {tm:Tm} {h:H},s.length-i<f→i≤s.length→R8 s i o l tm→Row h o l→l.length≤i→Good l →
  match lx f s i l with
  | (l',none)=>∃ tm' h' o',cdL env7 120 56 (.loop b8) tm h=some (.exit 0,tm',h')∧R8 s s.length o' l' tm'∧Row h' o' l'∧l'.length≤s.length∧Good l'
  | (l',some j)=>∃ tm' h',cdL env7 120 56 (.loop b8) tm h=some (.ret,tm',h')∧tm'.get 2=some (.sl .full [])∧tm'.get 3=some (.int .i64 ↑j)∧tm'.get 4=some (.int .i64 2)
 | 0,i,o,l,tm,h,hf,_,_,_,_,_=>by omega
 | f+1,i,o,l,tm,h,hf,hi,R,hr,hli,hg=>by
  simp only[lx]
  cases hc:s[i]? with
  | none=>
   have hle:s.length≤i:=List.getElem?_eq_none_iff.1 hc
   have:i=s.length:=by omega
   subst this
   obtain⟨tm',h1,h2⟩:=stop8 (cG env7 1) s s.length o l tm h 0 R (Nat.le_refl _)
   exact⟨tm',h,o,lp_e (cd_of h1),h2,hr,hli,hg⟩
  | some c=>
   have hlt:=aI hc
   simp only
   cases hb:isBlank c with
   | true=>
    obtain⟨tm1,h1,h2⟩:=blank8 (cG env7 1) s i o l tm h 0 c R (by omega) hc hb
    have:=loop8 hl f (i+1) o l (by omega) hlt h2 hr (by omega) hg
    rw[lp_n (cd_of h1)]
    exact this
   | false=>
    rcases tokRes_cases hc with ⟨x1,x2,x3,x4,n,e,hn,hin,ht⟩|⟨x1,x2,x3,x4,n,e,ht⟩
    ·rw[ht]
     obtain⟨tm1,h1,o1,hq,h2,h3⟩:=tok8 0 s i o l tm h 0 c R (by omega) hc hb x1 x2 x3 x4 n e hin hr (by omega) (good_sizes hg)
     have:=loop8 hl f (i+n) o1 _ (by omega) hin h2 h3 (by simp;omega) (good_add hg ⟨x1,x2,x3,x4,rfl⟩)
     rw[lp_n (cd_of hq)]
     exact this
    ·rw[ht]
     obtain⟨tm1,h1,hq,g2,g3,g4⟩:=err8 0 s i o l tm h 0 c R (by omega) hc hb x1 x2 x3 x4 n e
     exact⟨tm1,h1,lp_r (cd_of hq),g2,g3,g4⟩
def endTok (s:List Nat):AV:=fJ 5 [] 0 ↑s.length
def toks (s:List Nat):AV:=bif ltI 2000 ↑s.length then .tup [.sl .full [],.int .i64 0,.int .i64 7]else match lx (s.length+1) s 0 []with
 | (l,none) => .tup [.sl .no (l++[endTok s]),.int .i64 ↑s.length,.int .i64 0]
 | (_,some j) => .tup [.sl .full [],.int .i64 ↑j,.int .i64 2]
theorem good_pure:∀ {l:List AV},Good l→AV.fF l=true∧AV.dJ l=l
 | [],_=>⟨rfl,rfl⟩
 | t::l,h=>by
  obtain⟨x1,x2,x3,x4,rfl⟩:=h t (List.mem_cons_self ..)
  obtain⟨h1,h2⟩:=good_pure (l:=l) (fun t ht=>h t (List.mem_cons_of_mem _ ht))
  exact⟨by simp[AV.fF,AV.pure,h1],by simp[AV.dJ,AV.forget,h2]⟩
theorem body8:Tryz.f120.body=some (.seq (aC Tryz.f120 [0]) (.seq (aC Tryz.f120 [1,0]) (.seq (.block 0 (.loop b8)) (aC Tryz.f120 [1,1,1])))):=rfl
theorem lx_good {s:List Nat}:∀ (f i:Nat) (l l':List AV),Good l→lx f s i l=(l',none)→Good l'
 | 0,i,l,l',hg,h=>by simp only[lx,Prod.mk.injEq]at h;rw[←h.1];exact hg
 | f+1,i,l,l',hg,h=>by
  simp only[lx]at h
  cases hc:s[i]? with
  | none=>rw[hc]at h;simp only[Prod.mk.injEq]at h;rw[←h.1];exact hg
  | some c=>
   rw[hc]at h
   simp only at h
   cases hb:isBlank c with
   | true=>rw[hb]at h;exact lx_good f _ _ _ hg h
   | false=>
    rw[hb]at h
    simp only[cond_false]at h
    rcases tokRes_cases hc with ⟨x1,x2,x3,x4,n,e,hn,hin,ht⟩|⟨x1,x2,x3,x4,n,e,ht⟩
    ·rw[ht]at h;exact lx_good f _ _ _ (good_add hg ⟨x1,x2,x3,x4,rfl⟩) h
    ·rw[ht]at h;simp at h
theorem loop8x {s:List Nat} (hl:s.length≤100000) (f i:Nat) (o:Own) (l:List AV) {tm:Tm} {h:H} {x:Option (Ex × Tm × H)} (hx:cdL env7 120 56 (.loop b8) tm h=x) (hf:s.length-i<f) (hi:i≤s.length) (R:R8 s i o l tm) (hr:Row h o l) (hli:l.length≤i) (hg:Good l) :
  match lx f s i l with
  | (l',none)=>∃ tm' h' o',x=some (.exit 0,tm',h')∧R8 s s.length o' l' tm'∧Row h' o' l'∧l'.length≤s.length∧Good l'
  | (l',some j)=>∃ tm' h',x=some (.ret,tm',h')∧tm'.get 2=some (.sl .full [])∧tm'.get 3=some (.int .i64 ↑j)∧tm'.get 4=some (.int .i64 2):=by
 subst hx
 exact loop8 hl f i o l hf hi R hr hli hg
theorem pures_append:∀ (a b:List AV),AV.fF (a++b)=(AV.fF a&&AV.fF b)
 | [],b=>by simp[AV.fF]
 | x::a,b=>by simp[AV.fF,pures_append a b,Bool.and_assoc]
theorem toks_run (s:List Nat):∃ v' h1,evL env7 120 [.str s] ⟨.e,0⟩=some (v',h1)∧v'.pure=true∧v'.forget=toks s:=by
 rw[bE env7 (by kernel_rfl) (by kernel_rfl) body8 _ _ rfl]
 simp only[aC,sub,Tryz.f120]
 unfold toks
 cases hb:ltI 2000 ↑s.length with
 | true=>
  simp[EVT,aT,bC,aX,bA,bT,aL,aN,aQ,aG,aZ,val,aH,bN,bP,aU,setArgs,bQ,bS,bJ,aR,aP,bK,TYC,e7ty,hb]
  exact⟨rfl,rfl⟩
 | false=>
  have hle:s.length≤2000:=by rw[show(2000:Int)=((2000:Nat):Int) from rfl,eN]at hb;simpa using hb
  simp[EVT,aT,bC,aX,bA,bT,aL,aN,aQ,bF,AV.cells,aG,aZ,val,aH,bN,bP,bG,aU,aO,H.new,H.put,setArgs,bQ,bS,bJ,aR,aP,bK,TYC,e7ty,hb]
  generalize hx:cdL env7 120 56 (.loop b8) _ _=x
  have L:=loop8x (s:=s) (by omega) (s.length+1) 0 .full [] hx (by omega) (Nat.zero_le _) ⟨by simp[T.aA],by simp[T.aA],by simp[T.aA]⟩ (.inl ⟨rfl,rfl⟩) (Nat.zero_le _) (fun t ht=>by simp at ht)
  rcases hq:lx (s.length+1) s 0 []with ⟨l',_|j⟩
  ·rw[hq]at L
   obtain⟨tm',h',o',rfl,⟨g0,g2,g3⟩,hr,hll,hg⟩:=L
   have hgp:=good_pure hg
   have hsz:=good_sizes hg
   have hby:(l'.length+1)*40≤140737488355328:=by omega
   rcases hr with ⟨rfl,rfl⟩|⟨id,rfl,hch,hid⟩
   ·simp[EVT,AV.cells,aM,bY,cT,aY,bB,AV.one,TYC,g0,g2]
    exact⟨rfl,rfl⟩
   ·simp[EVT,AV.cells,aM,bY,cT,aY,bB,AV.one,TYC,g0,g2,hch,hsz,hby]
    have e1:∀ (a:List AV),AV.fF (l'++a)=AV.fF a:=fun a=>by rw[pures_append,hgp.1,Bool.true_and]
    have e2:∀ (a:List AV),AV.dJ (l'++a)=l'++AV.dJ a:=fun a=>by rw[eY,List.map_append,←eY,←eY,hgp.2]
    simp[AV.pure,AV.fF,AV.forget,AV.dJ,e1,e2,endTok,fJ]
  ·rw[hq]at L
   obtain⟨tm',h',rfl,g2,g3,g4⟩:=L
   simp[g2,g3,g4]
   exact⟨rfl,rfl⟩
end Go.Proofs.YtogjplcnmibnlaaGreatDoor.Lx
