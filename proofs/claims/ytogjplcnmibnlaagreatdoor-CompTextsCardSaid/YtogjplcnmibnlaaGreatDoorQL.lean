/- The reference's parser answers wherever it stands. What its tokens are. -/
import Derived.Test.YtogjplcnmibnlaaGreatDoorQJ
import Derived.Test.YtogjplcnmibnlaaGreatDoorCTXToks
set_option autoImplicit false
set_option maxRecDepth 100000
set_option maxHeartbeats 8000000
set_option linter.unusedSimpArgs false
set_option linter.unusedVariables false
namespace Go.Proofs.YtogjplcnmibnlaaGreatDoor.Pa
open Go.Ev Go.Ev.Nd Go.Proofs.YtogjplcnmibnlaaGreatDoor.Env Go.Proofs.YtogjplcnmibnlaaGreatDoor.Lx
section
variable {E:Go.Ev.Env} {p:Nat} {o:Go.Ev.Own} {L:List Tk}
theorem all_run (e:POk E) (wf:WfL L):∀ m,P2 E p o L 28 m∧P2 E p o L 146 m∧P2 E p o L 119 m
  | 0=>⟨fun h σ d _ h0=>absurd h0 (Nat.not_lt_zero _),fun h σ d _ h0=>absurd h0 (Nat.not_lt_zero _),fun h σ d _ h0=>absurd h0 (Nat.not_lt_zero _)⟩
  | m+1=>by
    obtain⟨pe,pa,pc⟩:=all_run e wf m
    have a1:=atom_step e wf pa (round_step e wf pe)
    have c1:=cons_step e wf (sum_step e wf (prod_step e wf (app_step e wf a1))) pc
    exact⟨expr_step e wf pe (let_step e wf pe) (match_step e wf pe) (set_step e wf (cmp_step e wf c1)),a1,c1⟩
end
theorem okS_cut {s:List Nat} (hs:okS s) (a n:Nat):okS ((s.drop a).take n):=
  ⟨by have := hs.1; have h1 : ((s.drop a).take n).length ≤ s.length := by rw [List.length_take, List.length_drop]; omega
      omega,fun x hx=>hs.2 x (List.mem_of_mem_drop (List.mem_of_mem_take hx))⟩
theorem wr64 (n:Int):In64 (wr .i64 n):=by
  rw[wr_eq,IntKind.wrap_i64]
  unfold In64
  omega
theorem numF_in:∀ (l:List Nat) (v:Int),In64 v→In64 (numF l v)
  | [],v,h=>h
  | c::l,v,h=>numF_in l _ (by unfold stepF;exact wr64 _)
theorem in_nat {a n:Nat} (h:a≤n) (hn:n≤1000000000):In64 (↑a:Int):=⟨by omega,by omega⟩
theorem firstF_ok {d w:List Nat}:∀ {l:List (List Nat)},(∀ x∈l,okS x)→fQ d l=some w→okS w
  | [],_,h=>by simp[fQ]at h
  | x::l,hl,h=>by
    unfold fQ at h
    cases hb:preF d x with
    | true=>rw[hb]at h;simp at h;rw[←h];exact hl x (List.mem_cons_self ..)
    | false=>rw[hb]at h;exact firstF_ok (fun y hy=>hl y (List.mem_cons_of_mem _ hy)) h
theorem signs_ok:∀ x∈fB,okS x:=by
  intro w hw
  have:(fB.all fun s=>Nat.ble s.length 100&&s.all fun x=>Nat.blt x 256)=true:=by decide
  exact okl (List.all_eq_true.1 this w hw)
theorem tokRes_ok {s:List Nat} (hs:okS s) {i c:Nat} (hl:s.length≤1000000000) (hi:i≤s.length) (hc:s[i]?=some c) {x1:Int} {x2:List Nat} {x3 x4:Int} {n:AV} (h:eW s i = .tup [.agg [.int .i64 x1,.str x2,.int .i64 x3,.int .i64 x4],n,.bool true]):(Tk.mk x1 x2 x3 x4).ok:=by
  unfold eW at h
  rw[hc]at h
  simp only at h
  have h0:okS s:=hs
  cases b1:dH ↑c with
  | true=>
    rw[b1]at h
    simp[nameRes,fJ]at h
    obtain⟨⟨_,r2,r3,r4⟩,_,_⟩:=h
    subst r2;subst r3;subst r4
    exact⟨okS_cut hs _ _,in0,in_nat hi hl⟩
  | false=>
  rw[b1]at h
  cases b2:cV ↑c with
  | true=>
    rw[b2]at h
    unfold numRes at h
    cases b3:numBad s i (cnt cV (s.drop i))with
    | true=>rw[b3]at h;simp at h
    | false=>
      rw[b3]at h
      simp[fJ]at h
      obtain⟨⟨_,r2,r3,r4⟩,_⟩:=h
      subst r2;subst r3;subst r4
      exact⟨ok0,numF_in _ _ in0,in_nat hi hl⟩
  | false=>
  rw[b2]at h
  cases b3:aE ↑c 34 with
  | true=>
    rw[b3]at h
    simp[textRes,fJ]at h
    obtain⟨⟨_,r2,r3,r4⟩,_,_⟩:=h
    subst r2;subst r3;subst r4
    exact⟨okS_cut hs _ _,in0,in_nat hi hl⟩
  | false=>
    rw[b3]at h
    unfold signRes at h
    cases b4:fQ (s.drop i) fB with
    | none=>rw[b4]at h;simp at h
    | some w=>
      rw[b4]at h
      simp[fJ]at h
      obtain⟨⟨_,r2,r3,r4⟩,_⟩:=h
      subst r2;subst r3;subst r4
      exact⟨firstF_ok signs_ok b4,in0,in_nat hi hl⟩
theorem lx_ok {s:List Nat} (hs:okS s) (hsl:s.length≤1000000000):∀ (f i:Nat) (L:List Tk) (l':List AV),(∀ t∈L,t.ok)→L.length≤i→i≤s.length→lx f s i (L.map Tk.av)=(l',none)→∃ L':List Tk,l'=L'.map Tk.av∧(∀ t∈L',t.ok)∧L'.length≤s.length
  | 0,i,L,l',hk,hl,hi,h=>by simp only[lx,Prod.mk.injEq]at h;exact⟨L,h.1.symm,hk,by omega⟩
  | f+1,i,L,l',hk,hl,hi,h=>by
    simp only[lx]at h
    cases hc:s[i]? with
    | none=>rw[hc]at h;simp only[Prod.mk.injEq]at h;exact⟨L,h.1.symm,hk,by omega⟩
    | some c=>
      have hlt:=aI hc
      rw[hc]at h
      simp only at h
      cases hb:isBlank c with
      | true=>rw[hb]at h;exact lx_ok hs hsl f _ _ _ hk (by omega) hlt h
      | false=>
        rw[hb]at h
        simp only[cond_false]at h
        rcases tokRes_cases hc with ⟨x1,x2,x3,x4,n,e,hn,hin,ht⟩|⟨x1,x2,x3,x4,n,e,ht⟩
        · rw[ht]at h
          have hok:=tokRes_ok hs hsl hi hc e
          refine lx_ok hs hsl f (i+n) (L++[⟨x1,x2,x3,x4⟩]) l' (fun t ht => ?_) (by simp;omega) hin (by rw[List.map_append];exact h)
          rcases List.mem_append.1 ht with ht|ht
          · exact hk t ht
          · rw[List.mem_singleton.1 ht];exact hok
        · rw[ht]at h;simp at h
abbrev okB (s:List Nat):Prop:=∀ x∈s,x<256
theorem toks_cases {s : List Nat} (hs0 : okB s) :
    (∃ a e:Int,toks s = .tup [.sl .full [],.int .i64 a,.int .i64 e]∧aE e 0=false) ∨
    ∃ L:List Tk,WfL L∧0<L.length∧toks s = .tup [.sl .no (L.map Tk.av),.int .i64 ↑s.length,.int .i64 0]:=by
  unfold toks
  cases hb:ltI 2000 ↑s.length with
  | true=>exact .inl ⟨_,_,rfl,rfl⟩
  | false=>
    have hle:s.length≤2000:=by rw[dI]at hb;simp at hb;omega
    have hs:okS s:=⟨by omega,hs0⟩
    simp only[cond_false]
    rcases hq:lx (s.length+1) s 0 []with ⟨l',_|j⟩
    · obtain⟨L',rfl,h2,h3⟩:=lx_ok hs (by omega) (s.length+1) 0 [] l' (by simp) (Nat.zero_le _) (Nat.zero_le _) hq
      refine .inr ⟨L'++[⟨5,[],0,↑s.length⟩],⟨by simp;omega,fun t ht => ?_,fun t ht => ?_⟩,by simp,by simp[endTok,fJ,Tk.av]⟩
      · rw[List.length_append,List.getElem?_append_right (by simp)]at ht
        simp at ht
        rw[←ht]
      · rcases List.mem_append.1 ht with ht|ht
        · exact h2 t ht
        · rw[List.mem_singleton.1 ht];exact⟨ok0,in0,in_nat (Nat.le_refl _) (by omega)⟩
    · exact .inl ⟨_,_,rfl,rfl⟩
end Go.Proofs.YtogjplcnmibnlaaGreatDoor.Pa
namespace Go.Proofs.YtogjplcnmibnlaaGreatDoor.Pa
open Go.Ev Go.Ev.Nd Go.Proofs.YtogjplcnmibnlaaGreatDoor.Env Go.Proofs.YtogjplcnmibnlaaGreatDoor.Lx
attribute [local simp] bC aX bA bT aL aN aQ bX bF bW dE cD aV AV.cells aG aZ val aH bN bP cP bG eI aU aO aM bY bI recheck H.new H.put cT aY bB AV.one setArgs bQ bS bJ aR aP bK
theorem body12:Tryz.f12.body=some (aC Tryz.f12 []):=rfl
theorem parse_run {E:Go.Ev.Env} (e:POk E) (h12:E.prim 12=none) (k27:∀ (s:List Nat) (h:H),evL E 27 [.str s] h=some (toks s,h)) {s:List Nat} (hs:okB s) (h:H) :
  ∃ v h' t a er,evL E 12 [.str s] h=some (.tup [v,.int .i64 a,.int .i64 er],h')∧Nv v t:=by
 have hty:=e.ty
 have hpl:=e.pl
 have hz:aE 0 0=true:=rfl
 have nz:Nv (.agg [.str [],.str [],.str [],.int .i64 0,.int .i64 0,.sl .full []]) (.mk [] [] [] 0 0 []):=nv_mk wk_0 ok0 ok0 ok0 in0 in0 (by simp) fit_0
 generalize hy:evL E 12 _ _=y
 rw[bE E h12 (by rw[e.fn];kernel_rfl) body12 _ _ rfl]at hy
 simp only[aC,sub,Tryz.f12]at hy
 rcases toks_cases hs with ⟨a,er,ht,he⟩|⟨L,wf,hL,ht⟩
 ·have k1:=fun h=>k27 s h
  rw[ht]at k1
  simp[EVT,aT,TYC,TYQ,hty,k1,he]at hy
  exact⟨_,_,_,_,_,hy.symm,nz⟩
 ·have k1:=fun h=>k27 s h
  rw[ht]at k1
  obtain⟨h1,hh1⟩:∃ g:H,g=⟨h.t.set h.nx (.cells [.str [],.str [],.str [],.int .i64 0,.int .i64 0,.sl .full []]),h.nx+1⟩:=⟨_,rfl⟩
  have l1:Lc h1 h.nx [.str [],.str [],.str [],.int .i64 0,.int .i64 0,.sl .full []]:=hh1▸gD _ _
  have nx1:h1.nx=h.nx+1:=by rw[hh1]
  obtain⟨h2,hh2⟩:∃ g:H,g=⟨h1.t.set h1.nx (.cells [.sl .no (L.map Tk.av),.int .i64 0,.int .i64 0,.int .i64 0]),h1.nx+1⟩:=⟨_,rfl⟩
  have g2:Gr h1 h2:=hh2▸cC _ _
  have S2:St h2 h1.nx .no L ⟨0,0,0⟩:=⟨by rw[hh2];exact T.bO _ _ _,by rw[hh2];exact Nat.lt_succ_self _,hL,in0⟩
  have npr:h.nx≠h1.nx:=by omega
  have l2:=l1.gr g2
  obtain⟨h3,v3,t3,σ3,k3,⟨w3,q3,rfl,qq3,ft3⟩,S3,f3,m3⟩:=(all_run (p:=h1.nx) (o := .no) (L:=L) e wf (mu L ⟨0,0,0⟩+1)).1 _ _ 0 S2 (Nat.lt_succ_self _) (by omega)
  rw[show((0:Nat):Int)=0 from rfl]at k3
  have l3:=l2.fr f3 npr
  obtain⟨h4,hh4⟩:∃ g:H,g=⟨(h3.t.set h3.nx (.cells [.str [],.str [],.str [],.int .i64 0,.int .i64 0,.sl .full []])).set h3.nx (.cells [.str t3.op,.str t3.name,.str t3.arg,.int .i64 t3.n,.int .i64 t3.at_,.sl w3 q3]),h3.nx+1⟩:=⟨_,rfl⟩
  have g4:Gr h3 h4:=hh4▸bR _ _ _
  have S4:=S3.gr g4
  have l4:=l3.gr g4
  have s4:Lc h4 h3.nx [.str t3.op,.str t3.name,.str t3.arg,.int .i64 t3.n,.int .i64 t3.at_,.sl w3 q3]:=hh4▸eH _ _ _
  have ne4:h.nx≠h3.nx:=by have:=l3.lt;omega
  have nps:h3.nx≠h1.nx:=by have:=S3.lt;omega
  obtain⟨h5,k5,g5⟩:=now_run e S4
  have S5:=S4.gr g5
  have l5:=l4.gr g5
  have s5:=s4.gr g5
  generalize nowF L _=tk at k5
  simp only[Tk.av]at k5
  have nv3:Nv (.agg [.str t3.op,.str t3.name,.str t3.arg,.int .i64 t3.n,.int .i64 t3.at_,.sl w3 q3]) t3:=⟨_,_,rfl,qq3,ft3⟩
  have g5g:=S5.g
  have eq1:h.nx+1=h1.nx:=nx1.symm
  have fin:∀ {h6:H} {σ6:Ps},St h6 h1.nx .no L σ6→Lc h6 h.nx [.str [],.str [],.str [],.int .i64 0,.int .i64 0,.sl .full []]→Lc h6 h3.nx [.str t3.op,.str t3.name,.str t3.arg,.int .i64 t3.n,.int .i64 t3.at_,.sl w3 q3]→True:=fun _ _ _=>trivial
  cases hk:aE tk.k 5 with
  | true=>
   cases he:aE σ3.e 0 with
   | true=>
    subst hh4;subst hh2;subst hh1
    simp only at *
    simp[EVT,aT,TYC,TYQ,hty,hpl,hz,k1,k3,k5,hk,he,g5g,l1.g,l5.g,s5.g]at hy
    exact⟨_,_,_,_,_,hy.symm,nv3⟩
   | false=>
    subst hh4;subst hh2;subst hh1
    simp only at *
    simp[EVT,aT,TYC,TYQ,hty,hpl,hz,k1,k3,k5,hk,he,g5g,l1.g,l5.g]at hy
    exact⟨_,_,_,_,_,hy.symm,nz⟩
  | false=>
   obtain⟨h6,σ6,k6,S6,f6,m6⟩:=fail_run e wf S5 2 rfl
   have l6:=l5.fr f6 npr
   have s6:=s5.fr f6 nps
   have g6g:=S6.g
   cases he:aE σ6.e 0 with
   | true=>
    subst hh4;subst hh2;subst hh1
    simp only at *
    simp[EVT,aT,TYC,TYQ,hty,hpl,hz,k1,k3,k5,k6,hk,he,g6g,l1.g,l6.g,s6.g]at hy
    exact⟨_,_,_,_,_,hy.symm,nv3⟩
   | false=>
    subst hh4;subst hh2;subst hh1
    simp only at *
    simp[EVT,aT,TYC,TYQ,hty,hpl,hz,k1,k3,k5,k6,hk,he,g6g,l1.g,l6.g]at hy
    exact⟨_,_,_,_,_,hy.symm,nz⟩
end Go.Proofs.YtogjplcnmibnlaaGreatDoor.Pa
