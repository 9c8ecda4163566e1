/- The reference's token at the beginning of a text. -/
import Derived.Test.YtogjplcnmibnlaaGreatDoorCTXNum
set_option autoImplicit false
set_option maxRecDepth 100000
set_option linter.unusedSimpArgs false
set_option linter.unusedVariables false
namespace Go.Proofs.YtogjplcnmibnlaaGreatDoor.Ly
open Go.Ev Go.Proofs.YtogjplcnmibnlaaGreatDoor.Env Go.Proofs.YtogjplcnmibnlaaGreatDoor.Lx
attribute [local simp] bC aX bA bT aL aN aQ bX bF bW dE cD aV AV.cells aG aZ val aH bN bP cP bG eI aU aO aM bY bI recheck H.new H.put cT aY bB AV.one setArgs bQ bS bJ aR aP bK
def isTk (v:AV):Prop:=∃ (x1:Int) (x2:List Nat) (x3 x4 n:Int),v = .tup [.agg [.int .i64 x1,.str x2,.int .i64 x3,.int .i64 x4],.int .i64 n]
theorem rname_tk (s:List Nat):isTk (rname s):=by
 unfold rname;simp only
 cases isW (s.take (1+cnt dR (s.drop 1)))with
 | true=>exact⟨_,_,_,_,_,rfl⟩
 | false=>cases ltI 12 ↑(1+cnt dR (s.drop 1))<;>exact⟨_,_,_,_,_,rfl⟩
theorem rnum_tk (s:List Nat):isTk (rnum s):=by
 unfold rnum;cases numBad s 0 (cnt cV s)<;>exact⟨_,_,_,_,_,rfl⟩
theorem rquo_tk (s:List Nat):isTk (rquo s):=by
 unfold rquo;simp only
 cases (aE ↑(1+cnt pNq s.tail) ↑s.length || !okT (s.tail.take (1+cnt pNq s.tail-1)))<;>exact⟨_,_,_,_,_,rfl⟩
theorem isTk_pure {v:AV} (h:isTk v):v.pure=true∧v.forget=v:=by
 obtain⟨x1,x2,x3,x4,n,rfl⟩:=h
 exact⟨rfl,rfl⟩
def lenPos (s:List Nat):Bool:=lenOk s&&Nat.blt 0 s.length
theorem fK {s:List Nat}:lenPos s=true↔s.length<140737488355328∧0<s.length:=by simp[lenPos,lenOk,blt_dec]
noncomputable def env9:Env:=bH (bH (bH env8b 86 (aW (pS lenPos rname))) 88 (aW (pS lenPos rnum))) 89 (aW (pS lenPos rquo))
theorem env9_ok:dW Tryz.prog env9:=
 bD (bD (bD env8b_ok
  (pS_ok env8_ok Tryz.func86 (by kernel_rfl) (by kernel_rfl) fun s h=>⟨rname_run s (fK.1 h).1 (fK.1 h).2,isTk_pure (rname_tk s)⟩))
  (pS_ok env8_ok Tryz.func88 (by kernel_rfl) (by kernel_rfl) fun s h=>⟨rnum_run s (fK.1 h).1 (fK.1 h).2,isTk_pure (rnum_tk s)⟩))
  (pS_ok env8_ok Tryz.func89 (by kernel_rfl) (by kernel_rfl) fun s h=>⟨rquo_run s (fK.1 h).1 (fK.1 h).2,isTk_pure (rquo_tk s)⟩)
theorem e9ty:env9.ty=env.ty:=rfl
theorem e9pl:env9.plan=env.plan:=rfl
theorem e9_24 (h:H) (s:List Nat) (hs:lenPos s=true):evL env9 86 [.str s] h=some (rname s,h):=pS_call (r:=rname) (by kernel_rfl) h s hs
theorem e9_26 (h:H) (s:List Nat) (hs:lenPos s=true):evL env9 88 [.str s] h=some (rnum s,h):=pS_call (r:=rnum) (by kernel_rfl) h s hs
theorem e9_27 (h:H) (s:List Nat) (hs:lenPos s=true):evL env9 89 [.str s] h=some (rquo s,h):=pS_call (r:=rquo) (by kernel_rfl) h s hs
theorem e9_28 (h:H) (s:List Nat) (hs:lenOk s=true):evL env9 90 [.str s] h=some (.str (sgn s),h):=pS_call (r:=fun s => .str (sgn s)) (by kernel_rfl) h s hs
theorem e9_23 (c:Int) (h:H):evL env9 85 [.int .u8 c] h=some (.bool (dH c),h):=by
 rw[evL_prim env9 (f:=85) (p:=aW (pI dH)) (by kernel_rfl)];rfl
theorem e9_25 (c:Int) (h:H):evL env9 87 [.int .u8 c] h=some (.bool (cV c),h):=by
 rw[evL_prim env9 (f:=87) (p:=aW (pI cV)) (by kernel_rfl)];rfl
def rone (s:List Nat):AV:=match s with
 | [] => .tup []
 | c::_=>bif dH ↑c then rname s else bif cV ↑c then rnum s else bif aE ↑c 34 then rquo s else .tup [fJ 4 (sgn s) 0 0,.int .i64 ↑(sgn s).length]
theorem rone_tk (s:List Nat) (hs:0<s.length):isTk (rone s):=by
 cases s with
 | nil=>simp at hs
 | cons c l=>
  unfold rone
  simp only
  cases h1:dH ↑c with
  | true=>exact rname_tk _
  | false=>
   cases h2:cV ↑c with
   | true=>exact rnum_tk _
   | false=>
    cases h3:aE ↑c 34 with
    | true=>exact rquo_tk _
    | false=>exact⟨_,_,_,_,_,rfl⟩
theorem rone_run (s:List Nat) (hp:lenPos s=true):∃ h1,evL env9 47 [.str s] ⟨.e,0⟩=some (rone s,h1):=by
 have hs:=fK.1 hp
 obtain⟨c,l,rfl⟩:∃ c l,s=c::l:=by
  cases s with
  | nil=>simp at hs
  | cons c l=>exact⟨c,l,rfl⟩
 have w1:=fun h=>e9_24 h _ hp
 have w2:=fun h=>e9_26 h _ hp
 have w3:=fun h=>e9_27 h _ hp
 have w4:=fun h=>e9_28 h _ (lenOk_iff.2 hs.1)
 rw[bE env9 (fn:=Tryz.f47) (by kernel_rfl) (by kernel_rfl) rfl _ _ rfl]
 simp only[Tryz.f47]
 unfold rone
 simp only
 cases h1:dH ↑c with
 | true=>
  obtain⟨x1,x2,x3,x4,n,e⟩:=rname_tk (c::l)
  rw[e]at w1 ⊢
  simp[EVT,aT,TYC,TYQ,e9ty,e9_23,e9_25,w1,h1]
 | false=>
  cases h2:cV ↑c with
  | true=>
   obtain⟨x1,x2,x3,x4,n,e⟩:=rnum_tk (c::l)
   rw[e]at w2 ⊢
   simp[EVT,aT,TYC,TYQ,e9ty,e9_23,e9_25,w2,h1,h2]
  | false=>
   cases h3:aE ↑c 34 with
   | true=>
    obtain⟨x1,x2,x3,x4,n,e⟩:=rquo_tk (c::l)
    rw[e]at w3 ⊢
    simp[EVT,aT,TYC,TYQ,e9ty,e9_23,e9_25,w3,h1,h2,h3]
   | false=>
    simp[EVT,aT,TYC,TYQ,e9ty,e9_23,e9_25,w4,h1,h2,h3,fJ]
noncomputable def env10:Env:=bH env9 47 (aW (pS lenPos rone))
theorem env10_ok:dW Tryz.prog env10:=
 bD env9_ok (pS_ok env9_ok Tryz.func47 (by kernel_rfl) (by kernel_rfl) fun s h=>⟨rone_run s h,isTk_pure (rone_tk s (fK.1 h).2)⟩)
theorem e10ty:env10.ty=env.ty:=rfl
theorem e10pl:env10.plan=env.plan:=rfl
theorem e10_14 (h:H) (s:List Nat) (hs:lenPos s=true):evL env10 47 [.str s] h=some (rone s,h):=pS_call (r:=rone) (by kernel_rfl) h s hs
end Go.Proofs.YtogjplcnmibnlaaGreatDoor.Ly
namespace Go.Proofs.YtogjplcnmibnlaaGreatDoor.Ly
open Go.Ev Go.Proofs.YtogjplcnmibnlaaGreatDoor.Env Go.Proofs.YtogjplcnmibnlaaGreatDoor.Lx
theorem rv_num:∀ (l:List Nat) (i:Nat) (v:Int),i+cnt cV l≤18→rv i l v=numF (l.take (cnt cV l)) v
 | [],i,v,_=>rfl
 | c::l,i,v,h=>by
  cases hq:cV ↑c with
  | false=>simp[rv,cnt,hq,numF]
  | true=>
   simp only[cnt,hq,cond_true]at h
   have:ltI ↑i 18=true:=eR (a:=i) (b:=18) (by omega)
   simp only[rv,cnt,hq,this,cond_true,List.take_succ_cons,numF]
   exact rv_num l (i+1) _ (by omega)
def RC (s:List Nat) (i:Nat):Prop:=
 (∃ (x1:Int) (x2:List Nat) (x3 x4:Int) (n:Nat),rone (s.drop i) = .tup [.agg [.int .i64 x1,.str x2,.int .i64 x3,.int .i64 x4],.int .i64 ↑n]∧0<n∧tokAt s i=some (.agg [.int .i64 x1,.str x2,.int .i64 x3,.int .i64 ↑i],n)) ∨
 (∃ (x1:Int) (x2:List Nat) (x3 x4:Int),rone (s.drop i) = .tup [.agg [.int .i64 x1,.str x2,.int .i64 x3,.int .i64 x4],.int .i64 0]∧tokAt s i=none)
theorem tokAt_t {s:List Nat} {i:Nat} {t:AV} {n:Nat} (h:eW s i = .tup [t,.int .i64 ↑n,.bool true]):tokAt s i=some (t,n):=by unfold tokAt;rw[h]
theorem tokAt_f {s:List Nat} {i:Nat} {t:AV} {n:Int} (h:eW s i = .tup [t,.int .i64 n,.bool false]):tokAt s i=none:=by unfold tokAt;rw[h];cases n<;>rfl
theorem rone_cases {s:List Nat} {i c:Nat} (hc:s[i]?=some c):RC s i:=by
 have hlt:=aI hc
 obtain⟨d,hd⟩:∃ d,s.drop i=c::d:=⟨s.drop (i+1),by
  rw[List.drop_eq_getElem_cons hlt]
  rw[List.getElem?_eq_getElem hlt]at hc
  rw[Option.some.inj hc]⟩
 have hd1:s.drop (i+1)=d:=by
  have:=congrArg List.tail hd
  simpa[List.tail_drop]using this
 have hR:eW s i=bif dH ↑c then nameRes s i else bif cV ↑c then numRes s i else bif aE ↑c 34 then textRes s i else signRes s i:=by
  unfold eW;rw[hc]
 have hO:rone (s.drop i)=bif dH ↑c then rname (c::d)else bif cV ↑c then rnum (c::d)else bif aE ↑c 34 then rquo (c::d)else .tup [fJ 4 (sgn (c::d)) 0 0,.int .i64 ↑(sgn (c::d)).length]:=by
  rw[hd];rfl
 unfold RC
 cases h1:dH ↑c with
 | true=>
  rw[h1]at hR hO
  simp only[cond_true]at hR hO
  have hm:cnt dR (c::d)=1+cnt dR d:=by simp[cnt,dR,h1,Nat.add_comm]
  unfold nameRes at hR
  rw[hd,hm]at hR
  unfold rname at hO
  simp only[List.drop_succ_cons,List.drop_zero]at hO
  unfold nameKind at hR
  rw[hasF_isW]at hR
  cases h2:isW ((c::d).take (1+cnt dR d))with
  | true=>
   rw[h2]at hR hO
   have hle:1+cnt dR d≤12:=by
    have:=isW_len h2
    have h3:=cnt_le dR d
    simp at this
    omega
   rw[show ltI 12 ↑(1+cnt dR d)=false from dZ (a:=12) hle]at hR
   exact .inl ⟨_,_,_,_,_,hO,by omega,tokAt_t hR⟩
  | false=>
   rw[h2]at hR hO
   cases h3:ltI 12 ↑(1+cnt dR d)with
   | true=>
    rw[h3]at hR hO
    exact .inr ⟨_,_,_,_,hO,tokAt_f hR⟩
   | false=>
    rw[h3]at hR hO
    exact .inl ⟨_,_,_,_,_,hO,by omega,tokAt_t hR⟩
 | false=>
  rw[h1]at hR hO
  simp only[cond_false]at hR hO
  cases h2:cV ↑c with
  | true=>
   rw[h2]at hR hO
   simp only[cond_true]at hR hO
   unfold numRes at hR
   unfold rnum at hO
   rw[hd]at hR
   have hb:numBad s i (cnt cV (c::d))=numBad (c::d) 0 (cnt cV (c::d)):=by unfold numBad;rw[hc];rfl
   have hp:0<cnt cV (c::d):=by simp[cnt,h2]
   cases h3:numBad (c::d) 0 (cnt cV (c::d))with
   | true=>
    rw[hb,h3]at hR
    rw[h3]at hO
    exact .inr ⟨_,_,_,_,hO,tokAt_f hR⟩
   | false=>
    rw[hb,h3]at hR
    rw[h3]at hO
    have h18:cnt cV (c::d)≤18:=by
     unfold numBad at h3
     simp only[Bool.or_eq_false_iff]at h3
     have:=h3.1
     rw[show(18:Int)=((18:Nat):Int) from rfl,eN]at this
     simpa using this
    rw[rv_num _ 0 0 (by omega)]at hO
    exact .inl ⟨_,_,_,_,_,hO,hp,tokAt_t hR⟩
  | false=>
   rw[h2]at hR hO
   simp only[cond_false]at hR hO
   cases h3:aE ↑c 34 with
   | true=>
    rw[h3]at hR hO
    simp only[cond_true]at hR hO
    unfold textRes at hR
    unfold rquo at hO
    rw[hd1]at hR
    simp only[List.tail_cons,Nat.add_sub_cancel_left,List.length_cons]at hO
    have hs:s[i+1+cnt dD d]?=d[cnt dD d]?:=by rw[←hd1,List.getElem?_drop]
    have hN:∀ x:Nat,dD ↑x=true→pNq ↑x=true:=fun x hx=>by
     simp only[dD,Bool.and_eq_true]at hx
     exact hx.2.2
    have hQ:∀ x:Nat,pNq ↑x=false→aE ↑x 34=true∧dD ↑x=false:=fun x hx=>by
     unfold pNq at hx
     have:aE ↑x 34=true:=by simpa using hx
     exact⟨this,by simp[dD,this]⟩
    have hl1:=cnt_le pNq d
    have hl2:=cnt_le dD d
    cases h5:okText s (i+1+cnt dD d) (cnt dD d)with
    | true=>
     rw[h5]at hR
     unfold okText at h5
     rw[hs]at h5
     cases he:d[cnt dD d]? with
     | none=>rw[he]at h5;simp at h5
     | some e=>
      rw[he]at h5
      simp only[Bool.and_eq_true,Bool.not_eq_true']at h5
      have hk:cnt pNq d=cnt dD d:=cnt_is (c:=e) (by
       refine List.all_eq_true.2 fun x hx=>hN x ?_
       exact List.all_eq_true.1 (cnt_take dD d) x hx) he (by simp[pNq,h5.1])
      have hlt2:=aI he
      rw[hk]at hO
      have hne:aE ↑(1+cnt dD d) ↑(d.length+1)=false:=by
       rw[bU];simp;omega
      have hok:okT (d.take (cnt dD d))=true:=by
       unfold okT
       rw[Bool.and_eq_true]
       refine⟨cnt_take dD d,?_⟩
       rw[List.length_take,Nat.min_eq_left hl2]
       simpa using h5.2
      rw[hne,hok]at hO
      refine .inl ⟨_,_,_,0,cnt dD d+2,?_,by omega,tokAt_t hR⟩
      rw[hO]
      simp[fJ,Int.add_comm]
      omega
    | false=>
     rw[h5]at hR
     refine .inr ?_
     have hx:(aE ↑(1+cnt pNq d) ↑(d.length+1) || !okT (d.take (cnt pNq d)))=true:=by
      cases h6:aE ↑(1+cnt pNq d) ↑(d.length+1)with
      | true=>rfl
      | false=>
       cases h7:okT (d.take (cnt pNq d))with
       | false=>rfl
       | true=>
        exfalso
        unfold okT at h7
        rw[Bool.and_eq_true]at h7
        have hlt2:cnt pNq d<d.length:=by
         rcases Nat.lt_or_eq_of_le hl1 with h8|h8
         ·exact h8
         ·rw[h8,bU]at h6;simp at h6;omega
        have he:=List.getElem?_eq_getElem hlt2
        have hq:=hQ _ (cnt_at he)
        have hk:cnt dD d=cnt pNq d:=cnt_is h7.1 he hq.2
        unfold okText at h5
        rw[hs,hk,he]at h5
        rw[List.length_take,Nat.min_eq_left hl1]at h7
        simp only[hq.1,Bool.true_and]at h5
        rw[h5]at h7
        simp at h7
     rw[hx]at hO
     exact⟨_,_,_,_,hO,tokAt_f hR⟩
   | false=>
    rw[h3]at hR hO
    simp only[cond_false]at hR hO
    unfold signRes at hR
    rw[hd]at hR
    unfold sgn at hO
    cases h5:fQ (c::d) fB with
    | none=>
     rw[h5]at hR hO
     exact .inr ⟨_,_,_,_,hO,tokAt_f hR⟩
    | some w=>
     rw[h5]at hR hO
     have hw:∀ w∈fB,0<w.length:=by decide
     exact .inl ⟨_,_,_,_,_,hO,hw w (firstF_len h5).1,tokAt_t hR⟩
end Go.Proofs.YtogjplcnmibnlaaGreatDoor.Ly
namespace Go.Proofs.YtogjplcnmibnlaaGreatDoor.Ly
open Go.Ev Go.Proofs.YtogjplcnmibnlaaGreatDoor.Env Go.Proofs.YtogjplcnmibnlaaGreatDoor.Lx
attribute [local simp] bC aX bA bT aL aN aQ bX bF bW dE cD aV AV.cells aG aZ val aH bN bP cP bG eI aU aO aM bY bI recheck H.new H.put cT aY bB AV.one setArgs bQ bS bJ aR aP bK
noncomputable def b9_0:Code:=aK Tryz.f27 0
theorem body9:Tryz.f27.body=some (.seq (aC Tryz.f27 [0]) (.seq (aC Tryz.f27 [1,0]) (.seq (aC Tryz.f27 [1,1,0]) (.seq (.seq (aC Tryz.f27 [1,1,1,0,0]) (.block 0 (.loop b9_0))) (aC Tryz.f27 [1,1,1,1]))))):=rfl
structure R9 (s:List Nat) (a:Nat) (o:Own) (l:List AV) (tm:Tm):Prop where
 g0:tm.get 0=some (.str s)
 g5:tm.get 5=some (.sl o l)
 g6:tm.get 6=some (.int .i64 ↑a)
theorem loop9 {s:List Nat} (hl:s.length≤100000):∀ (f i:Nat) (o:Own) (l:List AV) {tm:Tm} {h:H} {x:Option (Ex × Tm × H)},cdL env10 27 61 (.loop b9_0) tm h=x→s.length-i<f→i≤s.length→R9 s i o l tm→Row h o l→l.length≤i→Lx.Good l →
  match lx f s i l with
  | (l',none)=>∃ tm' h' o',x=some (.exit 0,tm',h')∧R9 s s.length o' l' tm'∧Row h' o' l'∧l'.length≤s.length∧Lx.Good l'
  | (l',some j)=>∃ tm' h',x=some (.ret,tm',h')∧tm'.get 2=some (.sl .full [])∧tm'.get 3=some (.int .i64 ↑j)∧tm'.get 4=some (.int .i64 2)
 | 0,i,o,l,tm,h,x,hx,hf,_,_,_,_,_=>by omega
 | f+1,i,o,l,tm,h,x,hx,hf,hi,R,hr,hli,hg=>by
  have R0:=R
  obtain⟨h0,h5,h6⟩:=R
  simp only[lx]
  cases hc:s[i]? with
  | none=>
   have hle:s.length≤i:=List.getElem?_eq_none_iff.1 hc
   have:i=s.length:=by omega
   subst this
   obtain⟨R,hR,hx⟩:=aS hx
   simp[b9_0,aK,Tryz.f27,loops,EVT,TYC,TYQ,lp,e10ty,h0,h6,dZ]at hx
   exact⟨_,h,o,hx.symm,⟨by simp[T.aA,h0],by simp[T.aA,h5],by simp[T.aA,h6]⟩,hr,hli,hg⟩
  | some c=>
   have hlt:=aI hc
   have hlt':=eR hlt
   have hw:=cH (i:=i) (by omega)
   simp only
   cases hb:isBlank c with
   | true=>
    obtain⟨R,hR,hx⟩:=aS hx
    unfold isBlank at hb
    have:x=R ((((tm.set 0 (.str s)).set 5 (.sl o l)).set 6 (.int .i64 (↑i+1)))) h→True:=fun _=>trivial
    cases e1:aE ↑c 32<;>cases e2:aE ↑c 9<;>cases e3:aE ↑c 10<;>simp[e1,e2,e3]at hb <;>
     simp[b9_0,aK,Tryz.f27,loops,EVT,TYC,TYQ,lp,e10ty,h0,h6,hlt',hc,e1,e2,e3,hw]at hx <;>
     (rw[hR]at hx
      exact loop9 hl f (i+1) o l hx (by omega) hlt ⟨by simp[T.aA,h0],by simp[T.aA,h5],by simp[T.aA]⟩ hr (by omega) hg)
   | false=>
    obtain⟨R,hR,hx⟩:=aS hx
    unfold isBlank at hb
    have hp:lenPos (s.drop i)=true:=fK.2 (by simp;omega)
    have w1:=fun h=>e10_14 h _ hp
    have htk:(s.drop i).take (s.length-i)=s.drop i:=by rw[←List.length_drop];exact List.take_length
    rcases tokRes_cases hc with ⟨_,_,_,_,n0,_,hn0,hin,ht0⟩|⟨_,_,_,_,n0,_,ht0⟩
    ·rcases rone_cases hc with ⟨x1,x2,x3,x4,n,e,hn,ht⟩|⟨x1,x2,x3,x4,e,ht⟩
     ·rw[ht]at ht0 ⊢
      simp only[Option.some.injEq,Prod.mk.injEq]at ht0
      obtain⟨_,rfl⟩:=ht0
      rw[e]at w1
      have hz:aE ↑n 0=false:=by rw[bU];simp;omega
      have hw2:wr .i64 (↑i+↑n)=↑i+↑n:=by rw[wr_eq];exact eX (by omega) (by omega)
      have hsz:=good_sizes hg
      have hby:(l.length+1)*40≤140737488355328:=by omega
      cases e1:aE ↑c 32<;>cases e2:aE ↑c 9<;>cases e3:aE ↑c 10<;>simp[e1,e2,e3]at hb
      rcases hr with ⟨rfl,rfl⟩|⟨id,rfl,hch,hid⟩
      ·simp[b9_0,aK,Tryz.f27,loops,EVT,TYC,TYQ,lp,e10ty,h0,h5,h6,hlt',hc,e1,e2,e3,hi,htk,hw2,w1,hz]at hx
       rw[hR]at hx
       exact loop9 hl f (i+n) _ _ hx (by omega) hin ⟨by simp[T.aA,h0],by simp[T.aA],by simp[T.aA]⟩ (.inr ⟨h.nx+1,rfl,by simp[T.aA],by simp⟩) (by simp;omega) (good_add hg ⟨_,_,_,_,rfl⟩)
      ·have hne:id≠h.nx:=by omega
       have hne':h.nx≠id:=by omega
       simp[b9_0,aK,Tryz.f27,loops,EVT,TYC,TYQ,lp,e10ty,h0,h5,h6,hlt',hc,e1,e2,e3,hi,htk,hw2,w1,hz,hch,hne,hsz,hby]at hx
       rw[hR]at hx
       exact loop9 hl f (i+n) _ _ hx (by omega) hin ⟨by simp[T.aA,h0],by simp[T.aA],by simp[T.aA]⟩ (.inr ⟨id,rfl,by simp[T.aA],by simp;omega⟩) (by simp;omega) (good_add hg ⟨_,_,_,_,rfl⟩)
     ·rw[ht]at ht0;simp at ht0
    ·rcases rone_cases hc with ⟨x1,x2,x3,x4,n,e,hn,ht⟩|⟨x1,x2,x3,x4,e,ht⟩
     ·rw[ht]at ht0;simp at ht0
     ·rw[ht]
      rw[e]at w1
      have hz:aE 0 0=true:=rfl
      cases e1:aE ↑c 32<;>cases e2:aE ↑c 9<;>cases e3:aE ↑c 10<;>simp[e1,e2,e3]at hb
      simp[b9_0,aK,Tryz.f27,loops,EVT,TYC,TYQ,lp,e10ty,h0,h6,hlt',hc,e1,e2,e3,hi,htk,w1,hz]at hx
      exact⟨_,_,hx.symm,by simp[T.aA],by simp[T.aA],by simp[T.aA]⟩
theorem rtoks_run (s:List Nat):∃ v' h1,evL env10 27 [.str s] ⟨.e,0⟩=some (v',h1)∧v'.pure=true∧v'.forget=toks s:=by
 rw[bE env10 (by kernel_rfl) (by kernel_rfl) body9 _ _ rfl]
 simp only[aC,sub,Tryz.f27]
 unfold toks
 cases hb:ltI 2000 ↑s.length with
 | true=>
  simp[EVT,aT,TYC,TYQ,e10ty,hb]
  exact⟨rfl,rfl⟩
 | false=>
  have hle:s.length≤2000:=by rw[show(2000:Int)=((2000:Nat):Int) from rfl,eN]at hb;simpa using hb
  simp[EVT,aT,TYC,TYQ,e10ty,hb]
  generalize hx:cdL env10 27 61 (.loop b9_0) _ _=x
  have L:=loop9 (s:=s) (by omega) (s.length+1) 0 .full [] hx (by omega) (Nat.zero_le _) ⟨by simp[T.aA],by simp[T.aA],by simp[T.aA]⟩ (.inl ⟨rfl,rfl⟩) (Nat.zero_le _) (fun t ht=>by simp at ht)
  rcases hq:lx (s.length+1) s 0 []with ⟨l',_|j⟩
  ·rw[hq]at L
   obtain⟨tm',h',o',rfl,⟨g0,g2,g3⟩,hr,hll,hg⟩:=L
   have hgp:=good_pure hg
   have hsz:=good_sizes hg
   have hby:(l'.length+1)*40≤140737488355328:=by omega
   rcases hr with ⟨rfl,rfl⟩|⟨id,rfl,hch,hid⟩
   ·simp[EVT,TYC,TYQ,g0,g2]
    exact⟨rfl,rfl⟩
   ·simp[EVT,TYC,TYQ,g0,g2,hch,hsz,hby]
    have e1:∀ (a:List AV),AV.fF (l'++a)=AV.fF a:=fun a=>by rw[pures_append,hgp.1,Bool.true_and]
    have e2:∀ (a:List AV),AV.dJ (l'++a)=l'++AV.dJ a:=fun a=>by rw[eY,List.map_append,←eY,←eY,hgp.2]
    simp[AV.pure,AV.fF,AV.forget,AV.dJ,e1,e2,endTok,fJ]
  ·rw[hq]at L
   obtain⟨tm',h',rfl,g2,g3,g4⟩:=L
   simp[g2,g3,g4]
   exact⟨rfl,rfl⟩
end Go.Proofs.YtogjplcnmibnlaaGreatDoor.Ly
