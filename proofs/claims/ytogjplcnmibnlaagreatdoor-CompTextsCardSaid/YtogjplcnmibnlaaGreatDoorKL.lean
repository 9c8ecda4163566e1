/- The reference's verifier: all steps of a function. -/
import Derived.Test.YtogjplcnmibnlaaGreatDoorKGRecu
import Derived.Test.YtogjplcnmibnlaaGreatDoorKGJmp
import Derived.Test.YtogjplcnmibnlaaGreatDoorKGUntri
set_option autoImplicit false
set_option maxRecDepth 100000
set_option maxHeartbeats 8000000
set_option linter.unusedSimpArgs false
set_option linter.unusedVariables false
namespace Go.Proofs.YtogjplcnmibnlaaGreatDoor.Ck
open Go.Ev Go.Proofs.YtogjplcnmibnlaaGreatDoor.Env
open Go.Proofs.YtogjplcnmibnlaaGreatDoor.Pa (Gr cC bR)
structure WT (K:Pg):Prop where
  ne:0<K.C.length
  len:K.C.length≤1000
  tl:∀ (f:Nat) (co:List Ins),K.C[f]?=some co→co.length=(K.τ f).length∧co.length≤100000∧0<co.length
  ok:∀ (f i:Nat) (co:List Ins) (ins:Ins),K.C[f]?=some co→co[i]?=some ins→∃ x,(K.τ f)[i]?=some x∧IOk K f i x ins
  b:∀ (f i:Nat) (x:Sx),f<K.C.length→(K.τ f)[i]?=some x→x.h≤100000∧x.d≤100000∧x.tr.length≤100000
  s0:∀ f,f<K.C.length→(K.τ f)[0]?=some ⟨0,K.D f,[]⟩
  d0:K.D 0=K.dep
theorem takes_small {op:Int} (h:op∈eG):(takesF op).1≤100∧(takesF op).2≤100:=by
  simp only[eG,List.mem_cons,List.not_mem_nil,or_false]at h
  rcases h with rfl|rfl|rfl|rfl|rfl|rfl|rfl|rfl|rfl|rfl|rfl|rfl|rfl|rfl|rfl|rfl|rfl|rfl|rfl|rfl|rfl|rfl|rfl<;>exact⟨by decide,by decide⟩
section
variable {E:Go.Ev.Env} {K:Pg} {c fid:Nat} {sid:Nat→Nat} {ws:Go.Ev.Own} {h:H} {col:Nat→Nat} {q:Cq}
theorem step_run (e : KOk E) (wt : WT K) (k : CK K c fid sid ws h col q) {i : Nat} {v : AV} (hvi : (q.V q.f)[i]? = some (some v)) (hbt : 2 * uv (q.V q.f) + q.ts.length < 1000000) (hus : q.us.length < 1000000) (hmu : q.f ∈ q.us) :
    StepR K c fid sid ws h col q (evL E 59 [.ptr (some (c,0)),.int .i64 ↑i] h):=by
  obtain⟨co,hco⟩:∃ co,K.C[q.f]?=some co:=⟨_,List.getElem?_eq_getElem k.ff⟩
  obtain⟨h1,h2,h3⟩:=wt.tl _ _ hco
  have hil:i<co.length:=by rw[h1,←k.rl q.f k.ff];exact aI hvi
  obtain⟨ins,hin⟩:∃ ins,co[i]?=some ins:=⟨_,List.getElem?_eq_getElem hil⟩
  obtain⟨x,hx,ok⟩:=wt.ok _ _ _ _ hco hin
  have hb:=wt.b _ _ _ k.ff hx
  have hlen:(K.τ q.f).length≤100000:=by omega
  cases ok with
  | plain op N hop hf hn=>exact step_plain e k hco h1 hx hvi hb hbt hus hmu hlen hop rfl (takes_small hop) hin hf hn
  | str N hN hf hn=>exact step_str e k hco h1 hx hvi hb hbt hus hmu hlen hin hf hN hn
  | get N hN hf hn=>exact step_get e k hco h1 hx hvi hb hbt hus hmu hlen hin hf hN hn
  | clos n hN hD hf hn=>exact step_clos e k hco h1 hx hvi hb hbt hus hmu hlen hin hf hN hD hn
  | recu n hN hD hf hn=>exact step_recu e k hco h1 hx hvi hb hbt hus hmu hlen hin hf hN hD hn
  | bind N hf hn=>exact step_bind e k hco h1 hx hvi hb hbt hus hmu hlen hin hf hn
  | drop N hf hd hn=>exact step_drop e k hco h1 hx hvi hb hbt hus hmu hlen hin hf hd hn
  | ret N h1' h2' h3'=>exact step_ret e k hco h1 hx hvi hb hbt hus hmu hlen hin (by rw[h3'];simp[cM];omega) h1' h2' h3'
  | jmp t hf ht=>exact step_jmp e k hco h1 hx hvi hb hbt hus hmu hlen hin hf ht
  | jz t hf ht hn=>exact step_jz e k hco h1 hx hvi hb hbt hus hmu hlen hin hf ht hn
  | case t hf ht hn=>exact step_case e k hco h1 hx hvi hb hbt hus hmu hlen hin hf ht hn
  | tri t hf ht hn=>exact step_tri e k hco h1 hx hvi hb hbt hus hmu hlen hin hf ht hn
  | untri N l a hl hf hn=>exact step_untri e k hco h1 hx hvi hb hbt hus hmu hlen hin hf hl hn
theorem CK.obj (k : CK K c fid sid ws h col q) {q' : Cq} (h1 : q'.fv = q.fv) (h2 : q'.us = q.us) (h3 : q'.fr = q.fr) (h4 : q'.V = q.V) (hs : SR h col 5 q'.tv q'.ts) (ht : ∀ i ∈ q'.ts, ∃ v, (q'.V q'.f)[i]? = some (some v)) (hf : q'.f < K.C.length) :
    CK K c fid sid ws ⟨h.t.set c (.cells [.int .i64 ↑K.dep,.sl .no (K.C.map cN),.sl .no (strs K.S),.sl ws (rowsA K sid),.rs fid K.C.length true,.bool true,q.fv,q'.tv,.int .i64 ↑q'.f]),h.nx⟩ col q' ∧
    Fx (fun j=>j=c) h col ⟨h.t.set c (.cells [.int .i64 ↑K.dep,.sl .no (K.C.map cN),.sl .no (strs K.S),.sl ws (rowsA K sid),.rs fid K.C.length true,.bool true,q.fv,q'.tv,.int .i64 ↑q'.f]),h.nx⟩ col:=by
  have F3:Fx (fun j=>j=c) h col ⟨h.t.set c (.cells [.int .i64 ↑K.dep,.sl .no (K.C.map cN),.sl .no (strs K.S),.sl ws (rowsA K sid),.rs fid K.C.length true,.bool true,q.fv,q'.tv,.int .i64 ↑q'.f]),h.nx⟩ col:=
    ⟨Nat.le_refl _,fun j hj=>⟨rfl,fun hp=>T.aD _ _ hp⟩,fun hz=>hz⟩
  have nz:∀ j,col j=4∨col j=5∨col j=6→¬ j=c:=by
    rintro j hj rfl
    have:=k.cc.1
    omega
  exact⟨{
    g:=by rw[h1];exact T.bO _ _ _
    frl:=by rw[h3];exact k.frl
    fr:=by rw[h3];exact(T.aD _ _ (Ne.symm k.ne_cf)).trans k.fr
    rl:=by rw[h4];exact k.rl
    rows:=by rw[h4];exact fun j hj=>(T.aD _ _ (Ne.symm (k.ne_cs hj))).trans (k.rows j hj)
    fu:=by rw[h1,h2];exact k.fu.fx F3 fun j hj=>nz j (.inl hj)
    tdo:=hs.fx F3 fun j hj=>nz j (.inr (.inl hj))
    vals:=by rw[h4];exact fun a i v x ha hv hx=>(k.vals a i v x ha hv hx).fx F3 fun j hj=>nz j (.inr (.inr hj))
    cc:=k.cc
    cf:=k.cf
    cs:=k.cs
    inj:=k.inj
    uss:=by rw[h2,h3];exact k.uss
    frs:=by rw[h3];exact k.frs
    tss:=ht
    ff:=hf
    fz:=k.fz },F3⟩
noncomputable def b31_2:Code:=aK Tryz.f31 2
theorem loop31_2 (e : KOk E) (wt : WT K) : ∀ (n : Nat) {tm : Tm} {h : H} {col : Nat → Nat} {q : Cq} {x : Option (Ex × Tm × H)}, 2 * uv (q.V q.f) + q.ts.length < n → n ≤ 1000000 → q.us.length < 1000000 → Wq q < 1000000 → q.f ∈ q.us → cdL E 31 140 (.loop b31_2) tm h = x → CK K c fid sid ws h col q →
    tm.get 3=some (.ptr (some (c,0))) →
    ∃ tm' h' col' q',x=some (.exit 4,tm',h')∧tm'.get 3=some (.ptr (some (c,0)))∧tm'.get 5=tm.get 5∧CK K c fid sid ws h' col' q'∧Fx (Mut col) h col h' col'∧q'.f=q.f∧Wq q'=Wq q∧(∃ l,q'.us=q.us++l)∧q'.ts=[]
  | 0,tm,h,col,q,x,hn,_,_,_,_,_,_,_=>by omega
  | n+1,tm,h,col,q,x,hn,hn1,hus,hW,hmu,hx,k,g3=>by
    have hty:=e.ty
    have hpl:=e.pl
    have hg:=k.g
    obtain⟨R,hR,hx⟩:=aS hx
    rcases List.eq_nil_or_concat q.ts with hts|⟨l,a,hts⟩
    · have st:=k.tdo
      rw[hts]at st
      have sl:=st.sl
      have hz:ltI 0 0=false:=rfl
      generalize q.tv=tv at *
      cases sl <;> (simp [b31_2, aK, Tryz.f31, loops, lp, EVT, bC, aX, bA, bT, aL, aN, aQ, aV, aG, aZ, val, aH, bN, bP, aU, bJ, aR, aP, bK, TYC, TYK, hty, g3, hg, hz] at hx
                    exact⟨_,_,_,q,hx.symm,by simp[T.aA,g3],by simp[T.aA],k,Fx.refl _ _ _,rfl,rfl,⟨[],by simp⟩,hts⟩)
    · rw[List.concat_eq_append]at hts
      have st:=k.tdo
      rw[hts]at st
      obtain⟨id9,n9,hv9,hln,s9⟩:=cut_sr st
      have hlast:∃ L,h.t.get id9=some (.row n9 3 1 (intA L))∧(intA L)[l.length]?=some (.int .i64 ↑a):=by
        have sl:=st.sl
        rcases hv9 with ⟨h1,h2⟩|h1
        · rw[h1]at sl
          generalize hm:l++[a]=m at sl
          cases sl with
          | r id L m k1 k3 k4=>exact⟨L,k1,SR.at k3 (by rw[←hm];simp)⟩
        · rw[h1]at sl
          generalize hm:l++[a]=m at sl
          generalize hz:l.length+1=z at sl
          cases sl with
          | v id n L m k1 k2 k3 k4=>exact⟨L,k1,SR.at k3 (by rw[←hm];simp)⟩
      obtain⟨L9,hg9,hat⟩:=hlast
      have hlt:ltI 0 (↑l.length+1)=true:=by
        have:(0:Int)<↑l.length+1:=by omega
        rw[dI];simp[this]
      have hlen1:q.ts.length=l.length+1:=by rw[hts];simp
      have hll:l.length<1000000:=by rw[hts]at hn;simp at hn;omega
      have hw:wr .i64 (↑l.length+1-1)=↑l.length:=wrn (by simp) (by omega)
      have hw2:wr .i64 ↑l.length=↑l.length:=wrn rfl (by omega)
      have hne9:l.length≠l.length+1:=by omega
      obtain⟨v,hv⟩:=k.tss a (by rw[hts];simp)
      obtain⟨kP,FP⟩:=k.obj (q':={ q with tv := .rv id9 n9 l.length,ts:=l }) rfl rfl rfl rfl s9 (fun i hi=>k.tss i (by rw[hts];exact List.mem_append_left _ hi)) k.ff
      have hlt9:l.length<n9:=by omega
      obtain⟨h4,col4,q4,k4,K4,F4,c4,w4,⟨u4,u4e⟩,m4,mono4⟩:=step_run e wt kP (i:=a) (v:=v) hv (by show 2*uv (q.V q.f)+l.length<1000000;omega) hus hmu
      have hq4u:q4.us.length<1000000:=by
        have:Wq q4=Wq q:=w4
        have h2:q4.us.length≤Wq q4:=by simp only[Wq];omega
        omega
      have key:∀ {tm':Tm},R tm' h4=x→tm'.get 3=some (.ptr (some (c,0)))→tm'.get 5=tm.get 5→∃ tm' h' col' q',x=some (.exit 4,tm',h')∧tm'.get 3=some (.ptr (some (c,0)))∧tm'.get 5=tm.get 5∧CK K c fid sid ws h' col' q'∧Fx (Mut col) h col h' col'∧q'.f=q.f∧Wq q'=Wq q∧(∃ l,q'.us=q.us++l)∧q'.ts=[]:=by
        intro tm1 hx1 t3 t5
        rw[hR]at hx1
        obtain⟨tm',h',col',q',r1,r2,r3,r4,r5,r6,r7,⟨r8,r8e⟩,r9⟩:=loop31_2 e wt n (q:=q4) (by
          have:q.ts.length=l.length+1:=by rw[hts];simp
          have hf4:q4.f=q.f:=c4
          rw[hf4]
          simp only at m4
          omega) (by omega) hq4u (by have:Wq q4=Wq q:=w4;omega) (by rw[c4,u4e];exact List.mem_append_left _ hmu) hx1 K4 t3
        exact⟨tm',h',col',q',r1,r2,r3.trans t5,r4,((FP.mut k.mut_c).two F4).two r5,r6.trans c4,r7.trans w4,⟨u4++r8,by rw[r8e,u4e,List.append_assoc]⟩,r9⟩
      have hg':=hg
      rcases hv9 with ⟨h1,h2⟩|h1
      · subst h2
        rw[h1]at hg'
        simp[b31_2,aK,Tryz.f31,loops,lp,EVT,bC,aX,bA,bT,aL,aN,aQ,bF,dE,cD,aV,AV.cells,aG,aZ,val,aH,bN,bP,aU,bI,recheck,H.put,aY,bB,AV.one,bJ,aR,aP,bK,TYC,TYK,hty,hpl,isub,g3,hg',hlt,hw2,hg9,hat,k4]at hx
        exact key hx (by simp[T.aA,g3]) (by simp[T.aA])
      · rw[h1]at hg'
        simp[b31_2,aK,Tryz.f31,loops,lp,EVT,bC,aX,bA,bT,aL,aN,aQ,bF,dE,cD,aV,AV.cells,aG,aZ,val,aH,bN,bP,aU,bI,recheck,H.put,aY,bB,AV.one,bJ,aR,aP,bK,TYC,TYK,hty,hpl,isub,g3,hg',hlt,hw2,hg9,hat,k4]at hx
        exact key hx (by simp[T.aA,g3]) (by simp[T.aA])
end
end Go.Proofs.YtogjplcnmibnlaaGreatDoor.Ck
namespace Go.Proofs.YtogjplcnmibnlaaGreatDoor.Ck
open Go.Ev Go.Proofs.YtogjplcnmibnlaaGreatDoor.Env
open Go.Proofs.YtogjplcnmibnlaaGreatDoor.Pa (Gr cC bR)
attribute [local simp] bC aX bA bT aL aN aQ bX bF bW dE cD aV AV.cells aG aZ val aH bN bP cP bG eI aU aO aM bY bI recheck H.new H.put cT aY bB AV.one setArgs bQ bS bJ aR aP bK
theorem uv_le:∀ l:List (Option AV),uv l≤l.length
 | []=>Nat.le_refl _
 | x::l=>by
  have:=uv_le l
  simp only[uv,List.length_cons]
  cases x<;>simp<;>omega
section
variable {E:Go.Ev.Env} {K:Pg} {c fid:Nat} {sid:Nat→Nat} {ws:Go.Ev.Own}
noncomputable def b31_1:Code:=aK Tryz.f31 1
theorem lb31_1:b31_1=(.seq (aC Tryz.f31 [1,1,1,1,1,0,1,0,0,0]) (.seq (.block 3 (.seq (aC Tryz.f31 [1,1,1,1,1,0,1,0,0,1,0,0,0]) (.seq (aC Tryz.f31 [1,1,1,1,1,0,1,0,0,1,0,0,1,0]) (.block 4 (.loop b31_2))))) (aC Tryz.f31 [1,1,1,1,1,0,1,0,0,1,1]))):=rfl
theorem loop31_1 (e:KOk E) (wt:WT K):∀ (n:Nat) {tm:Tm} {h:H} {col:Nat→Nat} {q:Cq} {x:Option (Ex × Tm × H)} {j:Nat},Wq q-j<n→j≤q.us.length→Wq q≤100000→q.ts=[]→cdL E 31 140 (.loop b31_1) tm h=x→CK K c fid sid ws h col q →
  tm.get 3=some (.ptr (some (c,0)))→tm.get 5=some (.int .i64 ↑j)→∃ tm' h' col' q',x=some (.exit 2,tm',h')∧tm'.get 3=some (.ptr (some (c,0)))∧CK K c fid sid ws h' col' q'
 | 0,tm,h,col,q,x,j,hn,_,_,_,_,_,_,_=>by omega
 | n+1,tm,h,col,q,x,j,hn,hj,hW,hts,hx,k,g3,g5=>by
  have hty:=e.ty
  have hpl:=e.pl
  have hg:=k.g
  have hfr:=k.fr
  have hul:q.us.length≤Wq q:=by simp only[Wq];omega
  obtain⟨R,hR,hx⟩:=aS hx
  rw[lb31_1]at hx
  have sl:=k.fu.sl
  rcases Nat.lt_or_ge j q.us.length with hlt|hge
  ·obtain⟨f,hf⟩:∃ f,q.us[j]?=some f:=⟨_,List.getElem?_eq_getElem hlt⟩
   have hfm:=List.mem_of_getElem? hf
   obtain⟨hfl,hfD⟩:=k.uss f hfm
   have hc:ltI ↑j ↑q.us.length=true:=eR hlt
   have hfa:(intI q.fr)[f]?=some (.int .i64 ↑(K.D f)):=by simp[intI,hfD]
   have hw:wr .i64 (↑j+1)=↑j+1:=cH (i:=j) (by omega)
   obtain⟨co,hco⟩:∃ co,K.C[f]?=some co:=⟨_,List.getElem?_eq_getElem hfl⟩
   obtain⟨t1,t2,t3⟩:=wt.tl _ _ hco
   obtain⟨kP,FP⟩:=k.obj (q':={ q with f:=f }) rfl rfl rfl rfl k.tdo (by intro i hi;rw[hts]at hi;cases hi) hfl
   obtain⟨h3,col3,q3,k3,K3,F3,a3,b3,c3,d3,e3,f3⟩:=to_run e kP (i:=0) (x:=⟨0,K.D f,[]⟩) hco t1 (wt.s0 f hfl) (b0:=false) (v := .sl .full []) (.inl ⟨rfl,rfl⟩) (by simp) (by rw[hts];simp)
   simp only[show((0:Nat):Int)=0 from rfl]at k3
   have c3':q3.f=f:=c3
   have b3':q3.us=q.us:=b3
   have d3':q3.fr=q.fr:=d3
   have hW3:Wq q3=Wq q:=by simp only[Wq,b3',d3']
   have huv:=uv_le (q.V f)
   have hrl:=k.rl f hfl
   have ncf:=k.ne_cf
   have key:∀ {tm1 tm2:Tm} {u:Option (Ex × Tm × H)},cdL E 31 140 (.loop b31_2) tm1 h3=u→tm1.get 3=some (.ptr (some (c,0)))→tm1.get 5=some (.int .i64 ↑j)→∃ tm' h' col' q',u=some (.exit 4,tm',h')∧tm'.get 3=some (.ptr (some (c,0)))∧tm'.get 5=some (.int .i64 ↑j)∧CK K c fid sid ws h' col' q'∧Wq q'=Wq q∧(∃ l,q'.us=q.us++l)∧q'.ts=[]:=by
    intro tm1 _ u hu g3' g5'
    obtain⟨tm',h',col',q',r1,r2,r3,r4,r5,r6,r7,⟨r8,r8e⟩,r9⟩:=loop31_2 e wt 1000000 (q:=q3) (by
     rw[c3']
     have:q.ts.length=0:=by rw[hts];rfl
     simp only at e3
     omega) (Nat.le_refl _) (by rw[b3'];omega) (by omega) (by rw[c3',b3'];exact hfm) hu K3 g3'
    exact⟨tm',h',col',q',r1,r2,r3.trans g5',r4,r7.trans hW3,⟨r8,by rw[r8e,b3']⟩,r9⟩
   have fin:∀ {tm':Tm} {h':H} {col':Nat→Nat} {q':Cq},R tm' h'=x→CK K c fid sid ws h' col' q'→Wq q'=Wq q→(∃ l,q'.us=q.us++l)→q'.ts=[]→tm'.get 3=some (.ptr (some (c,0)))→tm'.get 5=some (.int .i64 ↑(j+1))→∃ tm' h' col' q',x=some (.exit 2,tm',h')∧tm'.get 3=some (.ptr (some (c,0)))∧CK K c fid sid ws h' col' q':=by
    rintro tm' h' col' q' hx1 r4 r7 ⟨l,hl⟩ r9 g3' g5'
    rw[hR]at hx1
    exact loop31_1 e wt n (q:=q') (j:=j+1) (by omega) (by rw[hl];simp;omega) (by omega) r9 hx1 r4 g3' g5'
   generalize q.us=us at *
   generalize hfv:q.fv=fv at *
   cases sl with
   | e=>simp at hlt
   | v id n2 L l h1 h2 h3' h4=>
    have hat:=SR.at h3' hf
    have hjn:j<n2:=by omega
    simp[aC,sub,Tryz.f31,lp,EVT,TYC,TYK,hty,hpl,hg,hfr,g3,g5,hc,h1,hat,hlt,hfl,hfa,Ne.symm ncf,k3]at hx
    generalize hu:cdL E 31 140 (.loop b31_2) _ _=u at hx
    obtain⟨tm2,h6,col6,q6,rfl,u3,u5,K6,w6,l6,s6⟩:=key (tm2:=tm) hu (by simp[T.aA,g3]) (by simp[T.aA,g5])
    simp[EVT,u5,hw]at hx
    exact fin hx K6 w6 l6 s6 (by simp[T.aA,u3]) (by simp[T.aA])
   | r id L l h1 h3' h4=>
    have hat:=SR.at h3' hf
    simp[aC,sub,Tryz.f31,lp,EVT,TYC,TYK,hty,hpl,hg,hfr,g3,g5,hc,h1,hat,hlt,hfl,hfa,Ne.symm ncf,k3]at hx
    generalize hu:cdL E 31 140 (.loop b31_2) _ _=u at hx
    obtain⟨tm2,h6,col6,q6,rfl,u3,u5,K6,w6,l6,s6⟩:=key (tm2:=tm) hu (by simp[T.aA,g3]) (by simp[T.aA,g5])
    simp[EVT,u5,hw]at hx
    exact fin hx K6 w6 l6 s6 (by simp[T.aA,u3]) (by simp[T.aA])
  ·have hc:ltI ↑j ↑q.us.length=false:=dZ hge
   have hje:j=q.us.length:=by omega
   generalize hus:q.us=us at *
   generalize hfv:q.fv=fv at *
   cases sl with
   | e=>
    have hc0:ltI ↑j 0=false:=hc
    simp[aC,sub,Tryz.f31,lp,EVT,TYC,TYK,hty,hg,g3,g5,hc0]at hx
    exact⟨_,_,_,q,hx.symm,by simp[T.aA,g3],k⟩
   | v id n2 L l h1 h2 h3' h4=>
    simp[aC,sub,Tryz.f31,lp,EVT,TYC,TYK,hty,hg,g3,g5,hc]at hx
    exact⟨_,_,_,q,hx.symm,by simp[T.aA,g3],k⟩
   | r id L l h1 h3' h4=>
    simp[aC,sub,Tryz.f31,lp,EVT,TYC,TYK,hty,hg,g3,g5,hc]at hx
    exact⟨_,_,_,q,hx.symm,by simp[T.aA,g3],k⟩
end
end Go.Proofs.YtogjplcnmibnlaaGreatDoor.Ck
namespace Go.Proofs.YtogjplcnmibnlaaGreatDoor.Ck
open Go.Ev Go.Proofs.YtogjplcnmibnlaaGreatDoor.Env
open Go.Proofs.YtogjplcnmibnlaaGreatDoor.Pa (Gr cC bR)
theorem zeros_cells:∀ (t:List Sx),zeros [.bool false,.int .i64 0,.int .i64 0,.sl .full []] t.length=cellsOf t (List.replicate t.length none)
 | []=>rfl
 | x::t=>by
  rw[List.length_cons,zeros,List.replicate_succ,cellsOf,zeros_cells t]
  rfl
def rowsI (K:Pg) (sid:Nat→Nat) (i:Nat):List AV:=(List.range i).map fun k => .rs (sid k) (K.τ k).length true
theorem rowsI_sizes (K:Pg) (sid:Nat→Nat) (i:Nat):aM 1 (rowsI K sid i)=true:=by
 have:∀ l:List Nat,aM 1 (l.map fun k=>AV.rs (sid k) (K.τ k).length true)=true:=by
  intro l
  induction l with
  | nil=>rfl
  | cons a l ih=>simp only[List.map_cons,aM,ih,AV.cells];rfl
 exact this _
theorem rowsI_len (K:Pg) (sid:Nat→Nat) (i:Nat):(rowsI K sid i).length=i:=by simp[rowsI]
theorem rowsI_succ (K:Pg) (sid sid':Nat→Nat) (i:Nat) (h:∀ k,k<i→sid' k=sid k):rowsI K sid' (i+1)=rowsI K sid i++[.rs (sid' i) (K.τ i).length true]:=by
 simp only[rowsI,List.range_succ,List.map_append,List.map_cons,List.map_nil]
 congr 1
 apply List.map_congr_left
 intro k hk
 rw[h k (List.mem_range.1 hk)]
def ones (i:Nat):List AV:=List.replicate i (.int .i64 (-1))
theorem ones_succ (i:Nat):ones (i+1)=ones i++[.int .i64 (-1)]:=by simp[ones,List.replicate_succ']
section
variable {E:Go.Ev.Env} {K:Pg}
structure Ini (K:Pg) (c:Nat) (h:H) (i:Nat) (sid:Nat→Nat) (sv fv:AV):Prop where
 g:h.t.get c=some (.cells [.int .i64 ↑K.dep,.sl .no (K.C.map cN),.sl .no (strs K.S),sv,fv,.bool true,.sl .full [],.sl .full [],.int .i64 0])
 cl:c<h.nx
 v:(i=0∧sv = .sl .full []∧fv = .sl .full [])∨∃ cid fid,sv = .sl (.ch cid) (rowsI K sid i)∧fv = .rs fid i true∧h.t.get cid=some (.chain i 103 1)∧h.t.get fid=some (.row i 3 1 (ones i))∧cid<h.nx∧fid<h.nx∧cid≠c∧fid≠c∧fid≠cid∧∀ k,k<i→sid k≠cid∧sid k≠fid
 rows:∀ k,k<i→h.t.get (sid k)=some (.row (K.τ k).length 107 4 (cellsOf (K.τ k) (List.replicate (K.τ k).length none)))∧sid k<h.nx∧sid k≠c
 inj:∀ k j,k<i→j<i→sid k=sid j→k=j
noncomputable def b31_0:Code:=aK Tryz.f31 0
theorem loop31_0 (e:KOk E) (wt:WT K) {c p:Nat} (ncp:p≠c):∀ (m:List (List Ins)) (i:Nat) {tm:Tm} {h:H} {sid:Nat→Nat} {sv fv:AV} {x:Option (Ex × Tm × H)},m=K.C.drop i→i≤K.C.length→cdL E 31 140 (.loop b31_0) tm h=x→Ini K c h i sid sv fv →
  h.t.get p=some (.cells [.int .i64 ↑K.dep,.sl .no (K.C.map cN),.sl .no (strs K.S)])→p<h.nx→(∀ cid fid,sv = .sl (.ch cid) (rowsI K sid i)→fv = .rs fid i true→p≠cid∧p≠fid) →
  tm.get 1=some (.ptr (some (p,0)))→tm.get 3=some (.ptr (some (c,0)))→tm.get 4=some (.int .i64 ↑i) →
  ∃ tm' h' sid' sv' fv',x=some (.exit 0,tm',h')∧tm'.get 1=some (.ptr (some (p,0)))∧tm'.get 3=some (.ptr (some (c,0)))∧Ini K c h' K.C.length sid' sv' fv'∧h'.t.get p=some (.cells [.int .i64 ↑K.dep,.sl .no (K.C.map cN),.sl .no (strs K.S)])
 | [],i,tm,h,sid,sv,fv,x,hd,hi,hx,I,hp,hpl2,hpn,g1,g3,g4=>by
  have hty:=e.ty
  have hpl:=e.pl
  have hl:=dnil hd hi
  have hc:ltI ↑i ↑K.C.length=false:=dZ (by omega)
  obtain⟨R,hR,hx⟩:=aS hx
  simp[b31_0,aK,Tryz.f31,loops,lp,EVT,bC,aX,bA,bT,aL,aN,aQ,aV,aG,aZ,val,aH,bN,bP,aU,aP,bK,TYC,TYK,hty,hp,g1,g4,hc]at hx
  exact⟨_,_,sid,sv,fv,hx.symm,by simp[T.aA,g1],by simp[T.aA,g3],hl▸I,hp⟩
 | co::m,i,tm,h,sid,sv,fv,x,hd,hi,hx,I,hp,hpl2,hpn,g1,g3,g4=>by
  have hty:=e.ty
  have hpl:=e.pl
  obtain⟨hlt,hco,hd'⟩:=gC hd
  obtain⟨t1,t2,t3⟩:=wt.tl _ _ hco
  have hlC:=wt.len
  have hc:ltI ↑i ↑K.C.length=true:=eR hlt
  have hpa:(K.C.map cN)[i]?=some (cN co):=by simp[hco]
  have hw:wr .i64 (↑i+1)=↑i+1:=cH (i:=i) (by omega)
  have hg:=I.g
  have hcl:=I.cl
  have hb1:∀ b:Nat,b≤1000→co.length*b≤140737488355328:=fun b hb=>by
   have:=Nat.mul_le_mul t2 hb
   omega
  have hb2:=hb1 48 (by omega)
  have hz:zeros [.bool false,.int .i64 0,.int .i64 0,.sl .full []] co.length=cellsOf (K.τ i) (List.replicate (K.τ i).length none):=by rw[t1];exact zeros_cells _
  have nc0:c≠h.nx:=by omega
  have nc1:c≠h.nx+1:=by omega
  have nc2:c≠h.nx+1+1:=by omega
  have nc3:c≠h.nx+1+1+1:=by omega
  have np0:p≠h.nx:=by omega
  have np1:p≠h.nx+1:=by omega
  have np2:p≠h.nx+1+1:=by omega
  have np3:p≠h.nx+1+1+1:=by omega
  have n01:h.nx≠h.nx+1:=by omega
  have n12:h.nx+1≠h.nx+1+1:=by omega
  have n23:h.nx+1+1≠h.nx+1+1+1:=by omega
  obtain⟨sid',hsid⟩:∃ s:Nat→Nat,s=fun k=>if k=i then h.nx else sid k:=⟨_,rfl⟩
  have hs1:sid' i=h.nx:=by rw[hsid];simp
  have hs2:∀ k,k<i→sid' k=sid k:=fun k hk=>by rw[hsid];simp;omega
  have hrs:=rowsI_succ K sid sid' i hs2
  rw[hs1]at hrs
  have inj':∀ k j,k<i+1→j<i+1→sid' k=sid' j→k=j:=by
   intro k j hk hj hkj
   by_cases hki:k=i<;>by_cases hji:j=i
   ·omega
   ·rw[hki,hs1,hs2 j (by omega)]at hkj
    have:=(I.rows j (by omega)).2.1
    omega
   ·rw[hji,hs1,hs2 k (by omega)]at hkj
    have:=(I.rows k (by omega)).2.1
    omega
   ·rw[hs2 k (by omega),hs2 j (by omega)]at hkj
    exact I.inj k j (by omega) (by omega) hkj
  obtain⟨R,hR,hx⟩:=aS hx
  rcases I.v with ⟨rfl,rfl,rfl⟩|⟨cid,fid,rfl,rfl,v1,v2,v3,v4,v5,v6,v7,v8⟩
  ·have hc0:ltI 0 ↑K.C.length=true:=hc
   have hw0:wr .i64 1=1:=hw
   have hpa0:(K.C.map cN)[0]?=some (cN co):=hpa
   have hco0:K.C[0]?=some co:=hco
   simp[b31_0,aK,Tryz.f31,loops,lp,EVT,bC,aX,bA,bT,aL,aN,aQ,bX,bF,aV,AV.cells,aG,aZ,val,aH,bN,bP,bG,aU,aO,aM,bY,bI,recheck,H.new,H.put,aY,bB,AV.one,bJ,aR,aP,bK,TYC,TYK,MTK,hty,hpl,hp,g1,g3,g4,hc0,hpa0,cN,hg,hw0,hb2,hz,nc0,nc1,nc2,nc3,eQ,eO]at hx
   rw[hR]at hx
   refine loop31_0 e wt ncp m 1 (sid:=sid') (sv := .sl (.ch (h.nx+1)) (rowsI K sid' 1)) (fv := .rs (h.nx+1+1+1) 1 true) hd' hlt hx ?_ ?_ ?_ ?_ (by simp[T.aA,g1]) (by simp[T.aA,g3]) (by simp[T.aA])
   ·refine⟨?_,by simp only;omega,.inr ⟨h.nx+1,h.nx+1+1+1,rfl,rfl,?_,?_,by simp only;omega,by simp only;omega,by omega,by omega,by omega,?_⟩,?_,inj'⟩
    ·rw[hrs];simp[T.aA,rowsI,t1]
    ·simp[T.aA,Ne.symm nc1]
    ·simp[T.aA,Ne.symm nc3,ones]
    ·intro k hk
     have:k=0:=by omega
     subst this
     rw[hs1];omega
    ·intro k hk
     have:k=0:=by omega
     subst this
     rw[hs1]
     refine⟨?_,by simp only;omega,Ne.symm nc0⟩
     have n02:h.nx≠h.nx+1+1:=by omega
     have n03:h.nx≠h.nx+1+1+1:=by omega
     simp[T.aA,Ne.symm nc0,n02,n03,t1]
   ·simp[T.aA,np0,np1,np2,np3,ncp,hp]
   ·simp only;omega
   ·intro a b ha hb
    simp only[AV.sl.injEq,Go.Ev.Own.ch.injEq,AV.rs.injEq]at ha hb
    rw[←ha.1,←hb.1]
    exact⟨np1,np3⟩
  ·obtain⟨p1,p2⟩:=hpn cid fid rfl rfl
   have hsz:=rowsI_sizes K sid i
   have hrl:=rowsI_len K sid i
   have hb3:(i+1)*24≤140737488355328:=by omega
   have hb4:(i+1)*8≤140737488355328:=by omega
   have k0:cid≠h.nx:=by omega
   have k1:cid≠h.nx+1:=by omega
   have f0:fid≠h.nx:=by omega
   have f1:fid≠h.nx+1:=by omega
   simp[b31_0,aK,Tryz.f31,loops,lp,EVT,bC,aX,bA,bT,aL,aN,aQ,bX,bF,aV,AV.cells,aG,aZ,val,aH,bN,bP,bG,aU,aO,aM,bY,bI,recheck,H.new,H.put,aY,bB,AV.one,bJ,aR,aP,bK,TYC,TYK,MTK,hty,hpl,hp,g1,g3,g4,hc,hpa,cN,hg,hw,hb2,hb3,hb4,hz,hsz,hrl,v1,v2,v6,v7,Ne.symm v5,Ne.symm v6,k0,f0,f1,nc0,nc1,eQ,eO]at hx
   rw[hR]at hx
   refine loop31_0 e wt ncp m (i+1) (sid:=sid') (sv := .sl (.ch cid) (rowsI K sid' (i+1))) (fv := .rs fid (i+1) true) hd' hlt hx ?_ ?_ ?_ ?_ (by simp[T.aA,g1]) (by simp[T.aA,g3]) (by simp[T.aA])
   ·refine⟨?_,by simp only;omega,.inr ⟨cid,fid,rfl,rfl,?_,?_,by simp only;omega,by simp only;omega,v5,v6,v7,?_⟩,?_,inj'⟩
    ·rw[hrs];simp[T.aA,t1]
    ·simp[T.aA,k1,v5,Ne.symm v7]
    ·simp[T.aA,v6,ones_succ]
    ·intro k hk
     by_cases hki:k=i
     ·rw[hki,hs1];omega
     ·rw[hs2 k (by omega)];exact v8 k (by omega)
    ·intro k hk
     by_cases hki:k=i
     ·rw[hki,hs1]
      refine⟨?_,by simp only;omega,Ne.symm nc0⟩
      simp[T.aA,Ne.symm nc0,Ne.symm k0,Ne.symm f0,t1]
     ·rw[hs2 k (by omega)]
      obtain⟨r1,r2,r3⟩:=I.rows k (by omega)
      obtain⟨r4,r5⟩:=v8 k (by omega)
      have r6:sid k≠h.nx:=by omega
      have r7:sid k≠h.nx+1:=by omega
      refine⟨?_,by simp only;omega,r3⟩
      simp[T.aA,r3,r4,r5,r6,r7,r1]
   ·simp[T.aA,np0,np1,ncp,p1,p2,hp]
   ·simp only;omega
   ·intro a b ha hb
    simp only[AV.sl.injEq,Go.Ev.Own.ch.injEq,AV.rs.injEq]at ha hb
    rw[←ha.1,←hb.1]
    exact⟨p1,p2⟩
end
section
variable {E:Go.Ev.Env} {K:Pg}
def q0 (K:Pg) (fv:AV):Cq:=⟨.sl .full [],.sl .full [],[],[],0,List.replicate K.C.length (-1),fun k=>List.replicate (K.τ k).length none⟩
theorem ini_ck (wt:WT K) {c:Nat} {h:H} {sid:Nat→Nat} {sv fv:AV} (I:Ini K c h K.C.length sid sv fv):∃ fid ws col,sv = .sl ws (rowsA K sid)∧fv = .rs fid K.C.length true∧CK K c fid sid ws h col (q0 K fv):=by
 have hne:=wt.ne
 rcases I.v with ⟨h0,_,_⟩|⟨cid,fid,v1,v2,v3,v4,v5,v6,v7,v8,v9,v10⟩
 ·omega
 ·have hrow:rowsI K sid K.C.length=rowsA K sid:=rfl
  classical
  refine⟨fid,.ch cid,fun j=>if j=c then 1 else if j=fid then 2 else if ∃ k,k<K.C.length∧sid k=j then 3 else 0,by rw[v1,hrow],v2,?_⟩
  have hcol3:∀ k,k<K.C.length→(fun j=>if j=c then 1 else if j=fid then 2 else if ∃ k,k<K.C.length∧sid k=j then 3 else 0) (sid k)=3:=by
   intro k hk
   have h1:=(I.rows k hk).2.2
   have h2:=(v10 k hk).2
   simp only[]
   rw[if_neg h1,if_neg h2,if_pos ⟨k,hk,rfl⟩]
  exact {
   g:=by rw[I.g,v1,v2,hrow];rfl
   frl:=by simp[q0]
   fr:=by rw[v4];simp[q0,intI,ones]
   rl:=fun k hk=>by simp[q0]
   rows:=fun k hk=>(I.rows k hk).1
   fu := .inl ⟨rfl,rfl⟩
   tdo := .inl ⟨rfl,rfl⟩
   vals:=fun k i v x hk hv=>by
    simp only[q0,List.getElem?_replicate]at hv
    split at hv<;>cases hv
   cc:=⟨by simp,I.cl⟩
   cf:=⟨by show(if fid=c then 1 else if fid=fid then 2 else _)=2;rw[if_neg v8,if_pos rfl],v6⟩
   cs:=fun k hk=>⟨hcol3 k hk,(I.rows k hk).2.1⟩
   inj:=I.inj
   uss:=fun n hn=>by simp[q0]at hn
   frs:=fun n hn => .inl (by simp[q0,hn])
   tss:=fun i hi=>by simp[q0]at hi
   ff:=hne
   fz:=fun j hj=>by
    show(if j=c then 1 else if j=fid then 2 else if ∃ k,k<K.C.length∧sid k=j then 3 else 0)=0
    have:=I.cl
    rw[if_neg (by omega),if_neg (by omega),if_neg]
    rintro⟨k,hk,rfl⟩
    have:=(I.rows k hk).2.1
    omega }
theorem body31:Tryz.f31.body=some (.seq (aC Tryz.f31 [0]) (.seq (aC Tryz.f31 [1,0]) (.seq (aC Tryz.f31 [1,1,0]) (.seq (.seq (aC Tryz.f31 [1,1,1,0,0]) (.block 0 (.loop b31_0))) (.seq (aC Tryz.f31 [1,1,1,1,0]) (.seq (.seq (aC Tryz.f31 [1,1,1,1,1,0,0]) (.block 2 (.loop b31_1))) (aC Tryz.f31 [1,1,1,1,1,1]))))))):=rfl
theorem un_rep:∀ n,un (List.replicate n (-1))=n
 | 0=>rfl
 | n+1=>by
  have hz:aE (-1) (-1)=true:=rfl
  rw[List.replicate_succ,un,un_rep n,hz]
  rfl
theorem run31 (e:KOk E) (wt:WT K) (hI:Is13 K) (h:H):∃ h' c cs,evL E 31 [K.av] h=some (.ptr (some (c,0)),h')∧h'.t.get c=some (.cells cs)∧cs[5]?=some (.bool true)∧cs.length=9:=by
 have hty:=e.ty
 have hpl:=e.pl
 have hne:=wt.ne
 have hlC:=wt.len
 have hgt:ltI 0 ↑K.C.length=true:=eR hne
 obtain⟨h0,hh0⟩:∃ g:H,g=⟨h.t.set h.nx (.cells [.int .i64 ↑K.dep,.sl .no (K.C.map cN),.sl .no (strs K.S)]),h.nx+1⟩:=⟨_,rfl⟩
 obtain⟨h1,k1,G1⟩:=is13_run e hI h0
 have hp1:h1.t.get h.nx=some (.cells [.int .i64 ↑K.dep,.sl .no (K.C.map cN),.sl .no (strs K.S)]):=(G1.keep _ (by rw[hh0];exact Nat.lt_succ_self _)).trans (by rw[hh0];exact T.bO _ _ _)
 have hp2:h.nx<h1.nx:=by have:=G1.nx;rw[hh0]at this;simp only at this;omega
 have npc:h.nx≠h1.nx:=by omega
 generalize hy:evL E 31 _ _=y
 rw[bE E (e.no 31 (by simp)) (by rw[e.fn];kernel_rfl) body31 _ _ rfl]at hy
 simp only[aC,sub,Tryz.f31]at hy
 subst hh0
 simp only[Pg.av]at k1
 simp[EVT,aT,bC,aX,bA,bT,aL,aN,aQ,bX,aV,AV.cells,aG,aZ,val,aH,bN,bP,aU,bI,recheck,H.new,cT,aY,setArgs,bQ,bS,bJ,aR,aP,bK,TYC,TYK,hty,hpl,Pg.av,k1,hp1,hgt]at hy
 generalize hu:cdL E 31 140 (.loop b31_0) _ _=u at hy
 obtain⟨tm2,h2,sid,sv,fv,rfl,t1,t3,I,hp3⟩:=loop31_0 e wt (c:=h1.nx) (p:=h.nx) npc K.C 0 (sid:=fun _=>0) (sv := .sl .full []) (fv := .sl .full []) rfl (Nat.zero_le _) hu
  ⟨by simp[T.aA],by simp,.inl ⟨rfl,rfl,rfl⟩,fun k hk=>by omega,fun k j hk=>by omega⟩ (by simp[T.aA,npc,hp1]) (by simp only;omega) (by intro a b ha;cases ha) (by simp[T.aA]) (by simp[T.aA]) (by simp[T.aA])
 obtain⟨fid,ws,col,rfl,rfl,k⟩:=ini_ck wt I
 obtain⟨h3,col3,q3,k3,K3,F3,a3,b3,c3,d3,w3,l3,u3⟩:=begin_run e k (n:=0) hne (by simp[q0])
 rw[wt.d0]at k3
 simp only[show((0:Nat):Int)=0 from rfl]at k3
 simp[EVT,t1,t3,hp3,k3]at hy
 generalize hu2:cdL E 31 140 (.loop b31_1) _ _=u at hy
 have hW:Wq q3=K.C.length:=by rw[w3];simp[Wq,q0,un_rep]
 obtain⟨tm4,h4,col4,q4,rfl,t4,K4⟩:=loop31_1 e wt (Wq q3+1) (q:=q3) (j:=0) (by omega) (Nat.zero_le _) (by omega) b3 hu2 K3 (by simp[T.aA,t3]) (by simp[T.aA])
 simp[EVT,t4]at hy
 exact⟨_,_,_,hy.symm,K4.g,rfl,rfl⟩
theorem body13:Tryz.f13.body=some (aC Tryz.f13 []):=rfl
theorem is15_run (e:KOk E) (wt:WT K) (hI:Is13 K) (h:H):∃ h',evL E 13 [K.av] h=some (.bool true,h'):=by
 have hty:=e.ty
 have hpl:=e.pl
 obtain⟨h0,hh0⟩:∃ g:H,g=⟨h.t.set h.nx (.cells [.int .i64 ↑K.dep,.sl .no (K.C.map cN),.sl .no (strs K.S)]),h.nx+1⟩:=⟨_,rfl⟩
 obtain⟨h1,c,cs,k1,g1,g2,g3⟩:=run31 e wt hI h0
 generalize hy:evL E 13 _ _=y
 rw[bE E (e.no 13 (by simp)) (by rw[e.fn];kernel_rfl) body13 _ _ rfl]at hy
 simp only[aC,sub,Tryz.f13]at hy
 subst hh0
 simp only[Pg.av]at k1
 simp[EVT,aT,bC,aX,bA,bT,aL,aN,aQ,bX,aV,AV.cells,aG,aZ,val,aH,H.new,setArgs,bQ,bS,bJ,aR,TYC,TYK,hty,Pg.av,k1,g1,g2]at hy
 exact⟨_,hy.symm⟩
end
end Go.Proofs.YtogjplcnmibnlaaGreatDoor.Ck
