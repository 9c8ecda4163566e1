/- The machine without fuel: what a run comes to with enough of it; its equations. -/
import Derived.Test.YtogjplcnmibnlaaGreatDoorEvY
set_option autoImplicit false
set_option linter.unusedSectionVars false
set_option linter.unusedVariables false
set_option linter.unusedSimpArgs false
namespace Go.Ev
variable [MT]
section
variable {α:Type}
open Classical in
noncomputable def lim (F:Nat→Option α):Option α:=if h:∃ k r,F k=some r then F h.choose else none
def Mono (F:Nat→Option α):Prop:=∀ k k' r,k≤k'→F k=some r→F k'=some r
theorem lim_ex {F:Nat→Option α} {r:α} (h:lim F=some r):∃ k,F k=some r:=by
 unfold lim at h
 split at h
 ·exact⟨_,h⟩
 ·simp at h
theorem lim_some {F:Nat→Option α} (hm:Mono F) {k:Nat} {r:α} (h:F k=some r):lim F=some r:=by
 have he:∃ k r,F k=some r:=⟨k,r,h⟩
 unfold lim
 rw[dif_pos he]
 obtain⟨r',hr'⟩:=he.choose_spec
 have h1:=hm _ (max k he.choose) _ (Nat.le_max_left ..) h
 have h2:=hm _ (max k he.choose) _ (Nat.le_max_right ..) hr'
 rw[h1]at h2
 rw[hr',Option.some.inj h2]
theorem lim_iff {F:Nat→Option α} (hm:Mono F) {r:α}:lim F=some r↔∃ k,F k=some r:=⟨lim_ex,fun ⟨_,h⟩=>lim_some hm h⟩
theorem opt_ext {x y:Option α} (h:∀ r,x=some r↔y=some r):x=y:=by
 cases hx:x with
 | none=>
  cases hy:y with
  | none=>rfl
  | some r=>exact absurd ((h r).2 hy) (by simp[hx])
 | some r=>exact((h r).1 hx).symm
end
variable (E:Env)
noncomputable def evL:fO:=fun f args h=>lim fun k=>cG E k f args h
noncomputable def cdL (f n:Nat) (c:Code) (tm:Tm) (h:H):Option (Ex × Tm × H):=lim fun k=>aJ (cG E k) E f n k c tm h
theorem mono_fn (f:Nat) (args:List AV) (h:H):Mono fun k=>cG E k f args h:=fun k k' r hk he=>fT k k' hk f args h r he
theorem mono_cd (f n:Nat) (c:Code) (tm:Tm) (h:H):Mono fun k=>aJ (cG E k) E f n k c tm h:=fun k k' r hk he=>evCode_mono (fT k k' hk) k k' c hk he
theorem sub_evL (k:Nat):Sub (cG E k) (evL E):=fun f args h r he=>lim_some (mono_fn E f args h) he
section
variable {ty:Nat→Option TyI} {n:Nat} {ops:Array Oper}
theorem evAct_lim {tm:Tm} {h:H} {o:Op} {r:AV × H} (he:bA (evL E) ty tm h o=some r):∃ k,bA (cG E k) ty tm h o=some r:=by
 unfold bA at he ⊢
 split at he
 ·split at he
  ·exact lim_ex he
  ·simp at he
 ·exact⟨0,he⟩
theorem evOne_lim {o:Oper} {tm:Tm} {h:H} {r:Tm × H} (he:aX (evL E) ty n ops o tm h=some r):∃ k,aX (cG E k) ty n ops o tm h=some r:=by
 unfold aX at he ⊢
 split at he
 ·simp at he
 ·exact⟨0,he⟩
 ·rename_i hw
  cases ha:bA (evL E) ty tm h o.op with
  | none=>rw[ha]at he;simp at he
  | some p=>
   rw[ha]at he
   obtain⟨k,hk⟩:=evAct_lim E ha
   refine⟨k,?_⟩
   rw[hk]
   exact he
theorem evSeq_lim:∀ {l:List Oper} {tm:Tm} {h:H} {r:Tm × H},bC (evL E) ty n ops l tm h=some r→∃ k,bC (cG E k) ty n ops l tm h=some r
 | [],tm,h,r,he=>⟨0,he⟩
 | o::l,tm,h,r,he=>by
  simp only[bC]at he ⊢
  cases ho:aX (evL E) ty n ops o tm h with
  | none=>rw[ho]at he;simp at he
  | some p=>
   rw[ho]at he
   obtain⟨k1,h1⟩:=evOne_lim E ho
   obtain⟨k2,h2⟩:=evSeq_lim he
   refine⟨max k1 k2,?_⟩
   rw[evOne_mono (fT _ _ (Nat.le_max_left k1 k2)) h1]
   exact evSeq_mono (fT _ _ (Nat.le_max_right k1 k2)) h2
theorem evPlan_lim:∀ {l:List PE} {tm:Tm} {h:H} {r:Tm × H},bI (evL E) ty n ops l tm h=some r→∃ k,bI (cG E k) ty n ops l tm h=some r
 | [],tm,h,r,he=>⟨0,he⟩
 | p::l,tm,h,r,he=>by
  simp only[bI]at he ⊢
  split at he
  ·simp at he
  ·rename_i o ho
   cases h1:aX (evL E) ty n ops o tm h with
   | none=>rw[h1]at he;simp at he
   | some q=>
    rw[h1]at he
    simp only at he
    obtain⟨k1,h1'⟩:=evOne_lim E h1
    cases hr:recheck ty ops q.1 q.2 p.chk with
    | false=>rw[hr]at he;simp at he
    | true=>
     rw[hr]at he
     simp only[cond_true]at he
     obtain⟨k2,h2⟩:=evPlan_lim he
     refine⟨max k1 k2,?_⟩
     rw[evOne_mono (fT _ _ (Nat.le_max_left k1 k2)) h1']
     simp only[hr,cond_true]
     exact evPlan_mono (fT _ _ (Nat.le_max_right k1 k2)) h2
theorem evAlt_lim:∀ {al:Alt} {os:Array Oper} {tm:Tm} {h:H} {r:Tm × H},evAlt (evL E) ty n os al tm h=some r→∃ k,evAlt (cG E k) ty n os al tm h=some r
 | .leaf pl,os,tm,h,r,he=>evPlan_lim E he
 | .split a b x y,os,tm,h,r,he=>by
  simp only[evAlt]at he ⊢
  cases h1:evAlt (evL E) ty n (addEdge os b a) x tm h with
  | none=>rw[h1]at he;simp at he
  | some p=>
   cases h2:evAlt (evL E) ty n (addEdge os a b) y tm h with
   | none=>rw[h1,h2]at he;simp at he
   | some q=>
    rw[h1,h2]at he
    obtain⟨k1,h1'⟩:=evAlt_lim h1
    obtain⟨k2,h2'⟩:=evAlt_lim h2
    refine⟨max k1 k2,?_⟩
    rw[evAlt_mono (fT _ _ (Nat.le_max_left k1 k2)) h1',evAlt_mono (fT _ _ (Nat.le_max_right k1 k2)) h2']
    exact he
end
section
variable (f n:Nat) (tm:Tm) (h:H)
theorem eE {c:Code} {r:Ex × Tm × H}:cdL E f n c tm h=some r↔∃ k,aJ (cG E k) E f n k c tm h=some r:=lim_iff (mono_cd E f n c tm h)
theorem cdL_skip:cdL E f n .skip tm h=some (.normal,tm,h):=(eE E f n tm h).2 ⟨1,rfl⟩
theorem cdL_label (l:Nat):cdL E f n (.label l) tm h=some (.normal,tm,h):=(eE E f n tm h).2 ⟨1,rfl⟩
theorem cdL_exit (id:Nat):cdL E f n (.exit id) tm h=some (.exit id,tm,h):=(eE E f n tm h).2 ⟨1,rfl⟩
theorem cdL_ret:cdL E f n .ret tm h=some (.ret,tm,h):=(eE E f n tm h).2 ⟨1,rfl⟩
theorem cdL_region (id:Nat) (os:Array Oper):cdL E f n (.region id os false) tm h=match bC (evL E) E.ty n os os.toList tm h with|none=>none|some (tm',h')=>some (.normal,tm',h'):=by
 refine opt_ext fun r => ?_
 rw[eE]
 constructor
 ·rintro⟨k,hk⟩
  cases k with
  | zero=>simp[aJ]at hk
  | succ k=>
   simp only[aJ]at hk
   cases hs:bC (cG E (k+1)) E.ty n os os.toList tm h with
   | none=>rw[hs]at hk;simp at hk
   | some p=>
    rw[hs]at hk
    rw[evSeq_mono (sub_evL E _) hs]
    exact hk
 ·intro he
  cases hs:bC (evL E) E.ty n os os.toList tm h with
  | none=>rw[hs]at he;simp at he
  | some p=>
   rw[hs]at he
   obtain⟨k,hk⟩:=evSeq_lim E hs
   refine⟨k+1,?_⟩
   simp only[aJ]
   rw[evSeq_mono (fT k (k+1) (Nat.le_succ k)) hk]
   exact he
theorem cdL_drawn (id:Nat) (os:Array Oper):cdL E f n (.region id os true) tm h=match E.plan f id with|none=>(match E.alt f id with|none=>none|some al=>match evAlt (evL E) E.ty n os al tm h with|none=>none|some (tm',h')=>some (.normal,tm',h'))|some pl=>match bI (evL E) E.ty n os pl tm h with|none=>none|some (tm',h')=>some (.normal,tm',h'):=by
 refine opt_ext fun r => ?_
 rw[eE]
 constructor
 ·rintro⟨k,hk⟩
  cases k with
  | zero=>simp[aJ]at hk
  | succ k=>
   simp only[aJ]at hk
   cases hp:E.plan f id with
   | none=>
    rw[hp]at hk
    simp only at hk ⊢
    cases hal:E.alt f id with
    | none=>rw[hal]at hk;simp at hk
    | some al=>
     rw[hal]at hk
     simp only at hk ⊢
     cases hs:evAlt (cG E (k+1)) E.ty n os al tm h with
     | none=>rw[hs]at hk;simp at hk
     | some p=>
      rw[hs]at hk
      rw[evAlt_mono (sub_evL E _) hs]
      exact hk
   | some pl=>
    rw[hp]at hk
    simp only at hk ⊢
    cases hs:bI (cG E (k+1)) E.ty n os pl tm h with
    | none=>rw[hs]at hk;simp at hk
    | some p=>
     rw[hs]at hk
     rw[evPlan_mono (sub_evL E _) hs]
     exact hk
 ·intro he
  cases hp:E.plan f id with
  | none=>
   rw[hp]at he
   simp only at he
   cases hal:E.alt f id with
   | none=>rw[hal]at he;simp at he
   | some al=>
    rw[hal]at he
    simp only at he
    cases hs:evAlt (evL E) E.ty n os al tm h with
    | none=>rw[hs]at he;simp at he
    | some p=>
     rw[hs]at he
     obtain⟨k,hk⟩:=evAlt_lim E hs
     refine⟨k+1,?_⟩
     simp only[aJ]
     rw[hp]
     simp only
     rw[hal]
     simp only
     rw[evAlt_mono (fT k (k+1) (Nat.le_succ k)) hk]
     exact he
  | some pl=>
   rw[hp]at he
   simp only at he
   cases hs:bI (evL E) E.ty n os pl tm h with
   | none=>rw[hs]at he;simp at he
   | some p=>
    rw[hs]at he
    obtain⟨k,hk⟩:=evPlan_lim E hs
    refine⟨k+1,?_⟩
    simp only[aJ]
    rw[hp]
    simp only
    rw[evPlan_mono (fT k (k+1) (Nat.le_succ k)) hk]
    exact he
theorem up {k k':Nat} (hk:k≤k') {j:Nat} {c:Code} {tm:Tm} {h:H} {r:Ex × Tm × H} (he:aJ (cG E k) E f n j c tm h=some r) (j':Nat) (hj:j≤j'):aJ (cG E k') E f n j' c tm h=some r:=evCode_mono (fT k k' hk) j j' c hj he
theorem cdL_seq (a b:Code):cdL E f n (.seq a b) tm h=match cdL E f n a tm h with|none=>none|some (.normal,tm',h')=>cdL E f n b tm' h'|some r=>some r:=by
 refine opt_ext fun r => ?_
 rw[eE]
 constructor
 ·rintro⟨k,hk⟩
  cases k with
  | zero=>simp[aJ]at hk
  | succ k=>
   simp only[aJ]at hk
   cases ha:aJ (cG E (k+1)) E f n k a tm h with
   | none=>rw[ha]at hk;simp at hk
   | some p=>
    rw[ha]at hk
    rw[(eE E f n tm h).2 ⟨k+1,up E f n (Nat.le_refl _) ha _ (Nat.le_succ k)⟩]
    obtain⟨ex,tm1,h1⟩:=p
    cases ex with
    | normal=>exact(eE E f n _ _).2 ⟨k+1,up E f n (Nat.le_refl _) hk _ (Nat.le_succ k)⟩
    | exit j=>exact hk
    | ret=>exact hk
 ·intro he
  cases ha:cdL E f n a tm h with
  | none=>rw[ha]at he;simp at he
  | some p=>
   rw[ha]at he
   obtain⟨k1,h1⟩:=(eE E f n tm h).1 ha
   obtain⟨ex,tm1,h1'⟩:=p
   cases ex with
   | normal=>
    obtain⟨k2,h2⟩:=(eE E f n _ _).1 he
    refine⟨max k1 k2+1,?_⟩
    simp only[aJ]
    rw[up E f n (by omega) h1 (max k1 k2) (by omega)]
    exact up E f n (by omega) h2 _ (by omega)
   | exit j=>
    refine⟨k1+1,?_⟩
    simp only[aJ]
    rw[up E f n (by omega) h1 k1 (by omega)]
    exact he
   | ret=>
    refine⟨k1+1,?_⟩
    simp only[aJ]
    rw[up E f n (by omega) h1 k1 (by omega)]
    exact he
theorem cdL_cond (c:Operand) (a b:Code):cdL E f n (.cond c a b) tm h=match val tm c with|some (.bool t)=>bif t then cdL E f n a tm h else cdL E f n b tm h|_=>none:=by
 refine opt_ext fun r => ?_
 rw[eE]
 constructor
 ·rintro⟨k,hk⟩
  cases k with
  | zero=>simp[aJ]at hk
  | succ k=>
   simp only[aJ]at hk
   split at hk
   ·rename_i t hv
    rw[hv]
    cases t with
    | true=>exact(eE E f n _ _).2 ⟨k+1,up E f n (Nat.le_refl _) hk _ (Nat.le_succ k)⟩
    | false=>exact(eE E f n _ _).2 ⟨k+1,up E f n (Nat.le_refl _) hk _ (Nat.le_succ k)⟩
   ·simp at hk
 ·intro he
  split at he
  ·rename_i t hv
   have hq:∀ k,aJ (cG E (k+1)) E f n (k+1) (.cond c a b) tm h=bif t then aJ (cG E (k+1)) E f n k a tm h else aJ (cG E (k+1)) E f n k b tm h:=fun k=>by
    simp only[aJ]
    rw[hv]
   cases t with
   | true=>
    obtain⟨k,hk⟩:=(eE E f n _ _).1 he
    refine⟨k+1,?_⟩
    rw[hq]
    exact up E f n (by omega) hk _ (by omega)
   | false=>
    obtain⟨k,hk⟩:=(eE E f n _ _).1 he
    refine⟨k+1,?_⟩
    rw[hq]
    exact up E f n (by omega) hk _ (by omega)
  ·simp at he
theorem cdL_block (id:Nat) (b:Code):cdL E f n (.block id b) tm h=match cdL E f n b tm h with|none=>none|some (.exit j,tm',h')=>some (bif Nat.beq j id then .normal else .exit j,tm',h')|some r=>some r:=by
 refine opt_ext fun r => ?_
 rw[eE]
 constructor
 ·rintro⟨k,hk⟩
  cases k with
  | zero=>simp[aJ]at hk
  | succ k=>
   simp only[aJ]at hk
   cases ha:aJ (cG E (k+1)) E f n k b tm h with
   | none=>rw[ha]at hk;simp at hk
   | some p=>
    rw[ha]at hk
    rw[(eE E f n tm h).2 ⟨k+1,up E f n (Nat.le_refl _) ha _ (Nat.le_succ k)⟩]
    exact hk
 ·intro he
  cases ha:cdL E f n b tm h with
  | none=>rw[ha]at he;simp at he
  | some p=>
   rw[ha]at he
   obtain⟨k1,h1⟩:=(eE E f n tm h).1 ha
   refine⟨k1+1,?_⟩
   simp only[aJ]
   rw[up E f n (by omega) h1 k1 (by omega)]
   exact he
theorem cdL_loop (b:Code):cdL E f n (.loop b) tm h=match cdL E f n b tm h with|none=>none|some (.normal,tm',h')=>cdL E f n (.loop b) tm' h'|some r=>some r:=by
 refine opt_ext fun r => ?_
 rw[eE]
 constructor
 ·rintro⟨k,hk⟩
  cases k with
  | zero=>simp[aJ]at hk
  | succ k=>
   simp only[aJ]at hk
   cases ha:aJ (cG E (k+1)) E f n k b tm h with
   | none=>rw[ha]at hk;simp at hk
   | some p=>
    rw[ha]at hk
    rw[(eE E f n tm h).2 ⟨k+1,up E f n (Nat.le_refl _) ha _ (Nat.le_succ k)⟩]
    obtain⟨ex,tm1,h1⟩:=p
    cases ex with
    | normal=>exact(eE E f n _ _).2 ⟨k+1,up E f n (Nat.le_refl _) hk _ (Nat.le_succ k)⟩
    | exit j=>exact hk
    | ret=>exact hk
 ·intro he
  cases ha:cdL E f n b tm h with
  | none=>rw[ha]at he;simp at he
  | some p=>
   rw[ha]at he
   obtain⟨k1,h1⟩:=(eE E f n tm h).1 ha
   obtain⟨ex,tm1,h1'⟩:=p
   cases ex with
   | normal=>
    obtain⟨k2,h2⟩:=(eE E f n _ _).1 he
    refine⟨max k1 k2+1,?_⟩
    simp only[aJ]
    rw[up E f n (by omega) h1 (max k1 k2) (by omega)]
    exact up E f n (by omega) h2 _ (by omega)
   | exit j=>
    refine⟨k1+1,?_⟩
    simp only[aJ]
    rw[up E f n (by omega) h1 k1 (by omega)]
    exact he
   | ret=>
    refine⟨k1+1,?_⟩
    simp only[aJ]
    rw[up E f n (by omega) h1 k1 (by omega)]
    exact he
end
theorem evL_prim {f:Nat} {p:List AV→H→Option (AV × H)} (hp:E.prim f=some p) (args:List AV) (h:H):evL E f args h=p args h:=by
 refine opt_ext fun r => ?_
 constructor
 ·intro he
  obtain⟨k,hk⟩:=lim_ex he
  cases k with
  | zero=>simp[cG]at hk
  | succ k=>simpa only[cG,hp]using hk
 ·intro he
  exact lim_some (mono_fn E f args h) (k:=1) (by simpa only[cG,hp]using he)
theorem bE {f:Nat} {fn:Func} {c:Code} (hp:E.prim f=none) (hf:E.fns f=some fn) (hb:fn.body=some c) (args:List AV) (h:H) (hl:Nat.ble args.length fn.ntmps=true) :
  evL E f args h=aT E.ty fn.results.toList (cdL E f fn.ntmps c (setArgs 0 args .e) h):=by
 have hq:∀ k,cG E (k+1) f args h=aT E.ty fn.results.toList (aJ (cG E k) E f fn.ntmps k c (setArgs 0 args .e) h):=fun k=>by
  simp only[cG,hp,hf,hb,hl,cond_true]
  rcases aJ (cG E k) E f fn.ntmps k c (setArgs 0 args .e) h with _|⟨ex,tm,h'⟩
  ·rfl
  ·cases ex<;>rfl
 refine opt_ext fun r => ?_
 constructor
 ·intro he
  obtain⟨k,hk⟩:=lim_ex he
  cases k with
  | zero=>simp[cG]at hk
  | succ k=>
   rw[hq]at hk
   cases ha:aJ (cG E k) E f fn.ntmps k c (setArgs 0 args .e) h with
   | none=>rw[ha]at hk;simp[aT]at hk
   | some p=>
    rw[ha]at hk
    rw[(eE E f fn.ntmps _ h).2 ⟨k,ha⟩]
    exact hk
 ·intro he
  cases ha:cdL E f fn.ntmps c (setArgs 0 args .e) h with
  | none=>rw[ha]at he;simp[aT]at he
  | some p=>
   rw[ha]at he
   obtain⟨k,hk⟩:=(eE E f fn.ntmps _ h).1 ha
   refine lim_some (mono_fn E f args h) (k:=k+1) ?_
   rw[hq,hk]
   exact he
theorem eJ {k f:Nat} {args:List AV} {h:H} {r:AV × H} (he:cG E k f args h=some r):evL E f args h=some r:=lim_some (mono_fn E f args h) he
def lp (R:Tm→H→Option (Ex × Tm × H)):Option (Ex × Tm × H)→Option (Ex × Tm × H)
 | none=>none
 | some (.normal,tm,h)=>R tm h
 | some r=>some r
theorem aS {E:Env} {f n:Nat} {b:Code} {tm:Tm} {h:H} {x:Option (Ex × Tm × H)} (hx:cdL E f n (.loop b) tm h=x) :
  ∃ R,(∀ tm h,R tm h=cdL E f n (.loop b) tm h)∧lp R (cdL E f n b tm h)=x:=by
 refine⟨fun tm h=>cdL E f n (.loop b) tm h,fun _ _=>rfl,?_⟩
 rw[cdL_loop]at hx
 rw[←hx]
 rcases cdL E f n b tm h with _|⟨ex,tm',h'⟩
 ·rfl
 ·cases ex<;>rfl
def condAt (f:Func) (p:List Nat):Operand:=
 match aC f p with
 | .cond c _ _=>c
 | _ => .tmp 0
theorem cH [Inhabited KA0] {i:Nat} (h:i<9223372036854775807):wr .i64 ((i:Int)+1)=(i:Int)+1:=by
 rw[wr_eq];exact eX (by omega) (by omega)
theorem eR [Inhabited KA0] {a b:Nat} (h:a<b):ltI (a:Int) (b:Int)=true:=by rw[dI];simp[h]
theorem dZ [Inhabited KA0] {a b:Nat} (h:b≤a):ltI (a:Int) (b:Int)=false:=by rw[dI];simp;omega
theorem gC {α:Type} {s:List α} {n:Nat} {c:α} {l:List α} (h:c::l=s.drop n):n<s.length∧s[n]?=some c∧l=s.drop (n+1):=by
 refine⟨?_,?_,?_⟩
 ·have:=congrArg List.length h;simp at this;omega
 ·have:(s.drop n)[0]?=some c:=by rw[←h];rfl
  simpa using this
 ·have:=congrArg List.tail h;simpa[List.tail_drop]using this
theorem dnil {α:Type} {s:List α} {n:Nat} (h:[]=s.drop n) (hn:n≤s.length):s.length=n:=by
 have:=congrArg List.length h
 simp at this
 omega
section
variable [Inhabited KA0] {E}
theorem pureL_ok {P:Program} (hE:dW P E) {f:Nat} {fn:Func} (hfn:P.funcs[f]?=some fn) (hnm:(fn.name == "runtime.NumGoroutine")=false) (hb:fn.body.isNone=false) {p:List AV→Option AV}
  (hp:∀ args v,p args=some v→∃ v' h1,evL E f args ⟨.e,0⟩=some (v',h1)∧v'.pure=true∧v'.forget=v):cJ P f (aW p):=
 primPure_ok hE hfn hnm hb fun args v hv=>by
  obtain⟨v',h1,he,h2,h3⟩:=hp args v hv
  obtain⟨k,hk⟩:=lim_ex he
  exact⟨k,v',h1,hk,h2,h3⟩
end
end Go.Ev
namespace Go.Ev
variable [MT] [Inhabited KA0]
theorem EVT:(∀ (E:Env) (f n:Nat) (tm:Tm) (h:H),cdL E f n .skip tm h=some (.normal,tm,h)) ∧
 (∀ (E:Env) (f n:Nat) (tm:Tm) (h:H) (l:Nat),cdL E f n (.label l) tm h=some (.normal,tm,h)) ∧
 (∀ (E:Env) (f n:Nat) (tm:Tm) (h:H) (id:Nat),cdL E f n (.exit id) tm h=some (.exit id,tm,h)) ∧
 (∀ (E:Env) (f n:Nat) (tm:Tm) (h:H),cdL E f n .ret tm h=some (.ret,tm,h)) ∧
 (∀ (E:Env) (f n:Nat) (tm:Tm) (h:H) (id:Nat) (os:Array Oper),cdL E f n (.region id os false) tm h=match bC (evL E) E.ty n os os.toList tm h with|none=>none|some (tm',h')=>some (.normal,tm',h')) ∧
 (∀ (E:Env) (f n:Nat) (tm:Tm) (h:H) (id:Nat) (os:Array Oper),cdL E f n (.region id os true) tm h=match E.plan f id with|none=>(match E.alt f id with|none=>none|some al=>match evAlt (evL E) E.ty n os al tm h with|none=>none|some (tm',h')=>some (.normal,tm',h'))|some pl=>match bI (evL E) E.ty n os pl tm h with|none=>none|some (tm',h')=>some (.normal,tm',h')) ∧
 (∀ (E:Env) (f n:Nat) (tm:Tm) (h:H) (a b:Code),cdL E f n (.seq a b) tm h=match cdL E f n a tm h with|none=>none|some (.normal,tm',h')=>cdL E f n b tm' h'|some r=>some r) ∧
 (∀ (E:Env) (f n:Nat) (tm:Tm) (h:H) (c:Operand) (a b:Code),cdL E f n (.cond c a b) tm h=match val tm c with|some (.bool t)=>bif t then cdL E f n a tm h else cdL E f n b tm h|_=>none) ∧
 (∀ (E:Env) (f n:Nat) (tm:Tm) (h:H) (id:Nat) (b:Code),cdL E f n (.block id b) tm h=match cdL E f n b tm h with|none=>none|some (.exit j,tm',h')=>some (bif Nat.beq j id then .normal else .exit j,tm',h')|some r=>some r) ∧
 (∀ (α:Type) (k:Nat),(T.e:T α).get k=none) ∧
 (∀ (α:Type) (t:T α) (k j:Nat) (v:α),(t.set k v).get j=if j=k then some v else t.get j) ∧
 (∀ a b:Nat,Nat.blt a b=decide (a<b)) ∧
 (∀ a b:Nat,Nat.ble a b=decide (a≤b)) ∧
 (∀ a b:Nat,Nat.beq a b=decide (a=b)) ∧
 (∀ x:AV,AV.beq x x=true):=
 ⟨@cdL_skip _,@cdL_label _,@cdL_exit _,@cdL_ret _,@cdL_region _,@cdL_drawn _,@cdL_seq _,@cdL_cond _,@cdL_block _,fun _=>T.get_e,fun _=>T.aA,blt_dec,ble_dec,fM,AV.beq_refl⟩
theorem fD:(∀ (α:Type) (k:Nat),(T.e:T α).get k=none) ∧
 (∀ (α:Type) (t:T α) (k j:Nat) (v:α),(t.set k v).get j=if j=k then some v else t.get j) ∧
 (∀ a b:Nat,Nat.blt a b=decide (a<b))∧(∀ a b:Nat,Nat.ble a b=decide (a≤b))∧(∀ a b:Nat,Nat.beq a b=decide (a=b))∧(∀ x:AV,AV.beq x x=true):=
 ⟨fun _=>T.get_e,fun _=>T.aA,blt_dec,ble_dec,fM,AV.beq_refl⟩
end Go.Ev
namespace Go.Ev
variable [MT]
noncomputable def bodyL (E:Env) (f:Nat) (fn:Func) (c:Code) (args:List AV) (h:H):Option (AV × H):=
 aT E.ty fn.results.toList (cdL E f fn.ntmps c (setArgs 0 args .e) h)
section
variable [Inhabited KA0] {P:Program} {E:Env}
theorem bodyL_sim (hE:dW P E) {f:Nat} {fn:Func} {c:Code} {args:List AV} {h h':H} {v:AV} (hf:E.fns f=some fn) (hb:fn.body=some c) (hn:Nat.ble args.length fn.ntmps=true)
  (he:bodyL E f fn c args h=some (v,h')) :
  (∃ fn,P.funcs[f]?=some fn∧(fn.name == "runtime.NumGoroutine")=false∧fn.body.isNone=false) ∧
  ∀ G w (A:Array Value),Inv G w h→VRs G w A.toList args→Calls P f A w (Post G w h v h'):=by
 unfold bodyL at he
 cases hc:cdL E f fn.ntmps c (setArgs 0 args .e) h with
 | none=>rw[hc]at he;simp[aT]at he
 | some r=>
  rw[hc]at he
  obtain⟨k,hk⟩:=(eE E f fn.ntmps _ h).1 hc
  exact body_sim hE (fn_sim hE k) hf hb hn (by rw[hk];exact he)
end
def Own.wk (n:Nat) (o p:Own):Prop:=p = .no∨(p=o∧∀ id,o = .ch id→id<n)
mutual
def AV.wk (n:Nat):AV→AV→Prop
 | .ptr (some (id,o)),y=>id<n∧y = .ptr (some (id,o))
 | .vp cs,y=>∃ ds,y = .vp ds∧AV.wks n cs ds
 | .sl o els,y=>∃ p ds,y = .sl p ds∧o.wk n p∧AV.wks n els ds
 | .map (some id),y=>id<n∧y = .map (some id)
 | .rs id l o,y=>id<n∧y = .rs id l o
 | .rp id l o,y=>id<n∧y = .rp id l o
 | .rv id l o,y=>id<n∧y = .rv id l o
 | .fn f a b,y=>∃ c d,y = .fn f c d∧AV.wks n a c∧AV.wks n b d
 | .iface t v,y=>∃ u,y = .iface t u∧AV.wk n v u
 | .agg cs,y=>∃ ds,y = .agg ds∧AV.wks n cs ds
 | .tup cs,y=>∃ ds,y = .tup ds∧AV.wks n cs ds
 | x,y=>y=x
def AV.wks (n:Nat):List AV→List AV→Prop
 | [],m=>m=[]
 | a::l,m=>∃ b k,m=b::k∧AV.wk n a b∧AV.wks n l k
end
theorem cS {n:Nat}:∀ {l m:List AV},AV.wks n l m↔l.length=m.length∧∀ (i:Nat) x y,l[i]?=some x→m[i]?=some y→x.wk n y
 | [],m=>by
  simp only[AV.wks]
  constructor
  ·rintro rfl;exact⟨rfl,fun i x y h=>by simp at h⟩
  ·rintro⟨h,_⟩;exact List.eq_nil_of_length_eq_zero h.symm
 | a::l,m=>by
  simp only[AV.wks]
  constructor
  ·rintro⟨b,k,rfl,h1,h2⟩
   obtain⟨h3,h4⟩:=cS.1 h2
   refine⟨by simp[h3],fun i x y hx hy => ?_⟩
   cases i with
   | zero=>simp at hx hy;subst hx;subst hy;exact h1
   | succ i=>exact h4 i x y (by simpa using hx) (by simpa using hy)
  ·rintro⟨h1,h2⟩
   cases m with
   | nil=>simp at h1
   | cons b k=>exact⟨b,k,rfl,h2 0 a b rfl rfl,cS.2 ⟨by simpa using h1,fun i x y hx hy=>h2 (i+1) x y (by simpa using hx) (by simpa using hy)⟩⟩
theorem wk_cells {n:Nat} {x y:AV} (h:x.wk n y):AV.wks n x.cells y.cells:=by
 cases x with
 | agg cs=>
  simp only[AV.wk]at h
  obtain⟨ds,rfl,h⟩:=h
  exact h
 | ptr a=>
  have:y.cells=[y]:=by
   cases a with
   | none=>simp only[AV.wk]at h;subst h;rfl
   | some p=>simp only[AV.wk]at h;rw[h.2];rfl
  rw[this]
  exact⟨y,[],rfl,h,rfl⟩
 | map r=>
  have:y.cells=[y]:=by
   cases r with
   | none=>simp only[AV.wk]at h;subst h;rfl
   | some p=>simp only[AV.wk]at h;rw[h.2];rfl
  rw[this]
  exact⟨y,[],rfl,h,rfl⟩
 | vp cs=>have h':=h;simp only[AV.wk]at h';obtain⟨ds,rfl,_⟩:=h';exact⟨_,[],rfl,h,rfl⟩
 | sl o els=>have h':=h;simp only[AV.wk]at h';obtain⟨p,ds,rfl,_⟩:=h';exact⟨_,[],rfl,h,rfl⟩
 | fn f a b=>have h':=h;simp only[AV.wk]at h';obtain⟨p,ds,rfl,_⟩:=h';exact⟨_,[],rfl,h,rfl⟩
 | iface t v=>have h':=h;simp only[AV.wk]at h';obtain⟨u,rfl,_⟩:=h';exact⟨_,[],rfl,h,rfl⟩
 | tup cs=>have h':=h;simp only[AV.wk]at h';obtain⟨ds,rfl,_⟩:=h';exact⟨_,[],rfl,h,rfl⟩
 | rs id l o=>have h':=h;simp only[AV.wk]at h';obtain⟨_,rfl⟩:=h';exact⟨_,[],rfl,h,rfl⟩
 | rp id l o=>have h':=h;simp only[AV.wk]at h';obtain⟨_,rfl⟩:=h';exact⟨_,[],rfl,h,rfl⟩
 | rv id l o=>have h':=h;simp only[AV.wk]at h';obtain⟨_,rfl⟩:=h';exact⟨_,[],rfl,h,rfl⟩
 | bool b=>have h':=h;simp only[AV.wk]at h';subst h';exact⟨_,[],rfl,h,rfl⟩
 | int k m=>have h':=h;simp only[AV.wk]at h';subst h';exact⟨_,[],rfl,h,rfl⟩
 | str s=>have h':=h;simp only[AV.wk]at h';subst h';exact⟨_,[],rfl,h,rfl⟩
 | nilFn=>have h':=h;simp only[AV.wk]at h';subst h';exact⟨_,[],rfl,h,rfl⟩
 | nilIface=>have h':=h;simp only[AV.wk]at h';subst h';exact⟨_,[],rfl,h,rfl⟩
section
variable [Inhabited KA0] {G G':Gh} {w w':World} {n:Nat}
theorem OwnR.wk (hc:∀ id m v,id<n→G.cv id=some (m,v)→G'.cv id=some (m,v)) {o p:Own} {v:Value} {len cap:Nat} (hw:o.wk n p) (r:OwnR G o v len cap):OwnR G' p v len cap:=by
 rcases hw with rfl|⟨rfl,hid⟩
 ·trivial
 ·cases p with
  | no=>trivial
  | full=>exact r
  | ch id=>
   obtain⟨m,v',h1,h2⟩:=r
   exact⟨m,v',hc id m v' (hid id rfl) h1,h2⟩
theorem RowR.wk (hc:∀ id m v,id<n→G.cv id=some (m,v)→G'.cv id=some (m,v)) {id len b:Nat} {p:Nat→Prop} (hi:id<n) (r:RowR G id len b p):RowR G' id len b p:=by
 obtain⟨m,v',h1,h2⟩:=r
 exact⟨m,v',hc id m v' hi h1,h2⟩
theorem VR.wk (hS:∀ b o v,Stb G w b o v→Stb G' w' b o v) (hρ:∀ id b,id<n→G.ρ id=some b→G'.ρ id=some b) (hc:∀ id m v,id<n→G.cv id=some (m,v)→G'.cv id=some (m,v)) {V:Value} {x:AV} (r:VR G w V x) :
  ∀ {y:AV},x.wk n y→VR G' w' V y:=by
 induction r with
 | bool b=>intro y h;simp only[AV.wk]at h;subst h;exact .bool b
 | int k m=>intro y h;simp only[AV.wk]at h;subst h;exact .int k m
 | str s=>intro y h;simp only[AV.wk]at h;subst h;exact .str s
 | ptr0=>intro y h;simp only[AV.wk]at h;subst h;exact .ptr0
 | ptr id b off h0=>intro y h;simp only[AV.wk]at h;obtain⟨h1,rfl⟩:=h;exact .ptr id b off (hρ id b h1 h0)
 | vp b off cs f h1 h2 ih=>
  intro y h
  simp only[AV.wk]at h
  obtain⟨ds,rfl,h⟩:=h
  obtain⟨hl,he⟩:=cS.1 h
  refine .vp b off ds f (fun j hj=>hS _ _ _ (h1 j (by omega))) (fun j y hy => ?_)
  have hj:j<cs.length:=by have:=aI hy;omega
  exact ih j cs[j] (List.getElem?_eq_getElem hj) (he j _ y (List.getElem?_eq_getElem hj) hy)
 | sl0 A cap o hn ho=>
  intro y h
  simp only[AV.wk]at h
  obtain⟨p,ds,rfl,hw,h⟩:=h
  simp only[AV.wks]at h
  subst h
  exact .sl0 A cap p hn (OwnR.wk hc hw ho)
 | sl b off len cap s o els f hl hcap hs h1 h2 ho ih=>
  intro y h
  simp only[AV.wk]at h
  obtain⟨p,ds,rfl,hw,h⟩:=h
  obtain⟨hl',he⟩:=cS.1 h
  refine .sl b off len cap s p ds f (by omega) hcap (fun x hx => ?_) (fun i j hi hj=>hS _ _ _ (h1 i j hi hj)) (fun i j x z hx hz => ?_) (OwnR.wk hc hw ho)
  ·obtain⟨i,hi,rfl⟩:=List.mem_iff_getElem.1 hx
   have hi':i<els.length:=by omega
   have:=(cS.1 (wk_cells (he i els[i] ds[i] (List.getElem?_eq_getElem hi') (List.getElem?_eq_getElem hi)))).1
   rw[←this]
   exact hs _ (List.getElem_mem hi')
  ·have hi:i<els.length:=by have:=aI hx;omega
   obtain⟨q1,q2⟩:=cS.1 (wk_cells (he i els[i] x (List.getElem?_eq_getElem hi) hx))
   have hj:j<els[i].cells.length:=by have:=aI hz;omega
   exact ih i j els[i] els[i].cells[j] (List.getElem?_eq_getElem hi) (List.getElem?_eq_getElem hj) (q2 j _ z (List.getElem?_eq_getElem hj) hz)
 | map0=>intro y h;simp only[AV.wk]at h;subst h;exact .map0
 | map id b h0=>intro y h;simp only[AV.wk]at h;obtain⟨h1,rfl⟩:=h;exact .map id b (hρ id b h1 h0)
 | rs id len b cap own hcap h0=>intro y h;simp only[AV.wk]at h;obtain⟨h1,rfl⟩:=h;exact .rs id len b cap own hcap (h0.wk hc h1)
 | rp id len off b h0=>intro y h;simp only[AV.wk]at h;obtain⟨h1,rfl⟩:=h;exact .rp id len off b (h0.wk hc h1)
 | rv id len k b cap hk hcap h0=>intro y h;simp only[AV.wk]at h;obtain⟨h1,rfl⟩:=h;exact .rv id len k b cap hk hcap (h0.wk hc h1)
 | fn f a b c d ha hb h1 h2 ih1 ih2=>
  intro y h
  simp only[AV.wk]at h
  obtain⟨c',d',rfl,q1,q2⟩:=h
  obtain⟨l1,e1⟩:=cS.1 q1
  obtain⟨l2,e2⟩:=cS.1 q2
  refine .fn f a b c' d' (by omega) (by omega) (fun i v x hv hx => ?_) (fun i v x hv hx => ?_)
  ·have hi:i<c.length:=by have:=aI hx;omega
   exact ih1 i v c[i] hv (List.getElem?_eq_getElem hi) (e1 i _ x (List.getElem?_eq_getElem hi) hx)
  ·have hi:i<d.length:=by have:=aI hx;omega
   exact ih2 i v d[i] hv (List.getElem?_eq_getElem hi) (e2 i _ x (List.getElem?_eq_getElem hi) hx)
 | nilFn=>intro y h;simp only[AV.wk]at h;subst h;exact .nilFn
 | iface t v x h0 ih=>intro y h;simp only[AV.wk]at h;obtain⟨u,rfl,h⟩:=h;exact .iface t v u (ih h)
 | nilIface=>intro y h;simp only[AV.wk]at h;subst h;exact .nilIface
 | agg a c ha h1 ih=>
  intro y h
  simp only[AV.wk]at h
  obtain⟨ds,rfl,h⟩:=h
  obtain⟨hl,he⟩:=cS.1 h
  refine .agg a ds (by omega) (fun i v x hv hx => ?_)
  have hi:i<c.length:=by have:=aI hx;omega
  exact ih i v c[i] hv (List.getElem?_eq_getElem hi) (he i _ x (List.getElem?_eq_getElem hi) hx)
 | tup a c ha h1 ih=>
  intro y h
  simp only[AV.wk]at h
  obtain⟨ds,rfl,h⟩:=h
  obtain⟨hl,he⟩:=cS.1 h
  refine .tup a ds (by omega) (fun i v x hv hx => ?_)
  have hi:i<c.length:=by have:=aI hx;omega
  exact ih i v c[i] hv (List.getElem?_eq_getElem hi) (he i _ x (List.getElem?_eq_getElem hi) hx)
theorem VRs.wk (hS:∀ b o v,Stb G w b o v→Stb G' w' b o v) (hρ:∀ id b,id<n→G.ρ id=some b→G'.ρ id=some b) (hc:∀ id m v,id<n→G.cv id=some (m,v)→G'.cv id=some (m,v)) {V:List Value} {x y:List AV} (r:VRs G w V x) (h:AV.wks n x y):VRs G' w' V y:=by
 obtain⟨hl,he⟩:=cS.1 h
 refine⟨by rw[r.1,hl],fun i v z hv hz => ?_⟩
 have hi:i<x.length:=by have:=aI hz;omega
 exact VR.wk hS hρ hc (r.2 i v x[i] hv (List.getElem?_eq_getElem hi)) (he i _ z (List.getElem?_eq_getElem hi) hz)
end
def Obj.wk (n:Nat):Obj→Obj→Prop
 | .cells cs,o=>∃ ds,o = .cells ds∧AV.wks n cs ds
 | .map es,o=>∃ fs,o = .map fs∧es.length=fs.length∧∀ (i:Nat) k x k' x',es[i]?=some (k,x)→fs[i]?=some (k',x')→k.wk n k'∧x.wk n x'
 | .chain a b c,o=>o = .chain a b c
 | .row a b c cs,o=>∃ ds,o = .row a b c ds∧AV.wks n cs ds
structure Keep (h h1 hk:H):Prop where
 nx:hk.nx=h.nx
 top:∀ id o,hk.t.get id=some o→id<h.nx∨∃ o',h.t.get id=some o'
 obj:∀ id,id<h.nx→(hk.t.get id=h.t.get id∧h1.t.get id=h.t.get id)∨∃ o o',h1.t.get id=some o∧hk.t.get id=some o'∧o.wk h.nx o'∧(h.t.get id=some o→o'=o)
theorem Keep.same {h h1:H} (he:∀ id,id<h.nx→h1.t.get id=h.t.get id):Keep h h1 h:=
 ⟨rfl,fun id o ho => .inr ⟨o,ho⟩,fun id hi => .inl ⟨rfl,he id hi⟩⟩
def Gh.cut (n:Nat) (G:Gh):Gh:=
 ⟨fun id=>if id<n then G.ρ id else none,fun id=>if id<n then G.cv id else none,
  fun b=>match G.ow b with|some id=>if id<n then G.fr b else none|none=>G.fr b,
  fun b=>match G.ow b with|some id=>if id<n then some id else none|none=>none,G.base⟩
section
variable [Inhabited KA0] {G G1:Gh} {w w1:World} {h h1 hk:H}
theorem cut_fr' {n:Nat} {G:Gh} {b:Nat}:(G.cut n).fr b=none∨(G.cut n).fr b=G.fr b:=by
 simp only[Gh.cut]
 split
 ·split
  ·exact .inr rfl
  ·exact .inl rfl
 ·exact .inr rfl
theorem cut_stb {n:Nat} {b o:Nat} {v:Value} (s:Stb G w b o v):Stb (G.cut n) w b o v:=by
 refine⟨s.1,?_⟩
 rcases cut_fr' (n:=n) (G:=G) (b:=b)with e|e
 ·exact .inl e
 ·rw[e];exact s.2
theorem cut_ρ {n:Nat} (id b:Nat) (hi:id<n) (h:G.ρ id=some b):(G.cut n).ρ id=some b:=by simp only[Gh.cut,if_pos hi,h]
theorem cut_cv {n:Nat} (id m:Nat) (v:Value) (hi:id<n) (h:G.cv id=some (m,v)):(G.cut n).cv id=some (m,v):=by simp only[Gh.cut,if_pos hi,h]
theorem ObjR.wk {n:Nat} {o o':Obj} {p:Option Go.Obj} (hw:o.wk n o') (r:ObjR G w (some o) p):ObjR (G.cut n) w (some o') p:=by
 have vr:∀ {V:Value} {x y:AV},VR G w V x→x.wk n y→VR (G.cut n) w V y:=fun r h=>VR.wk (fun b o v=>cut_stb) cut_ρ cut_cv r h
 match o,p,r with
 | .cells cs,some (.cells c _ fz),r=>
  simp only[Obj.wk]at hw
  obtain⟨ds,rfl,hw⟩:=hw
  exact⟨r.1,VRs.wk (fun b o v=>cut_stb) cut_ρ cut_cv r.2 hw⟩
 | .map es,some (.map ents _),r=>
  simp only[Obj.wk]at hw
  obtain⟨fs,rfl,hl,hw⟩:=hw
  refine⟨by rw[r.1,hl],fun i e k x he hf => ?_⟩
  have hi:i<es.length:=by have:=aI hf;omega
  obtain⟨q1,q2⟩:=hw i es[i].1 es[i].2 k x (List.getElem?_eq_getElem hi) hf
  obtain⟨r1,r2⟩:=r.2 i e es[i].1 es[i].2 he (List.getElem?_eq_getElem hi)
  exact⟨vr r1 q1,vr r2 q2⟩
end
section
variable [Inhabited KA0] {P:Program} {E:Env}
def cF (p:List AV→Option AV):List AV→H→Option (AV × H):=fun args h=>match p args with|none=>none|some v=>some (v,h)
theorem primVal_ok (hE:dW P E) {f:Nat} {fn:Func} {c:Code} (hf:E.fns f=some fn) (hb:fn.body=some c) {p:List AV→Option AV}
  (hp:∀ args v,p args=some v→Nat.ble args.length fn.ntmps=true∧∃ args',AV.wks 0 args args'∧∃ v' h1,bodyL E f fn c args' ⟨.e,0⟩=some (v',h1)∧v'.wk 0 v):cJ P f (cF p):=by
 obtain⟨q1,q2⟩:=hE.fns f fn hf
 refine⟨⟨fn,q1,q2,by rw[hb];rfl⟩,fun args h v hk he G w A I hA => ?_⟩
 unfold cF at he
 cases hv:p args with
 | none=>rw[hv]at he;simp at he
 | some v0=>
  rw[hv]at he
  simp only[Option.some.injEq,Prod.mk.injEq]at he
  obtain⟨rfl,rfl⟩:=he
  obtain⟨hn,args',hwa,v',h1,hbd,hw⟩:=hp args v0 hv
  have hA':VRs (Gp G) w A.toList args':=VRs.wk (n:=0) (G:=G) (G':=Gp G) (fun b o v s=>s) (fun id b hi=>by omega) (fun id m v hi=>by omega) hA hwa
  have hn':Nat.ble args'.length fn.ntmps=true:=by rw[←(cS.1 hwa).1];exact hn
  refine((bodyL_sim hE hf hb hn' hbd).2 (Gp G) w A (invp I) hA').mono ?_
  rintro e w' ⟨G',V,rfl,hV,hI,hX⟩
  have hh:∀ j,j<w.heap.size→w'.heap[j]?=w.heap[j]?:=fun j hj=>(hX.own j hj rfl).1
  refine⟨G,V,rfl,VR.wk (n:=0) (G:=G') (fun b o v s=>⟨s.1,?_⟩) (fun id b hi=>by omega) (fun id m v hi=>by omega) hV hw,grow_inv I hX.os hX.tape hX.output hX.size hh,grow_ext G _ hX.os hX.tape hX.output hX.size hh⟩
  by_cases hbs:b<w.heap.size
  ·have:=(hX.own b hbs rfl).2.1
   have s2:=s.2
   rw[this]at s2
   exact s2
  ·cases hf:G.fr b with
   | none=>exact .inl rfl
   | some k'=>exact absurd (I.frb b k' hf).2 hbs
theorem prim_rec {E0:Env} (hE:dW P E0) {f:Nat} {pd:Nat→List AV→H→Option (AV × H)} (h0:cJ P f (pd 0)) (step:∀ d,dW P (bH E0 f (pd d))→cJ P f (pd (d+1))):∀ d,cJ P f (pd d)
 | 0=>h0
 | d+1=>step d (bD hE (prim_rec hE h0 step d))
theorem prim_none {f:Nat} {fn:Func} (hfn:P.funcs[f]?=some fn) (hnm:(fn.name == "runtime.NumGoroutine")=false) (hb:fn.body.isNone=false) {p:List AV→H→Option (AV × H)} (hp:∀ a h,p a h=none):cJ P f p:=
 ⟨⟨fn,hfn,hnm,hb⟩,fun args h v h' he=>by rw[hp]at he;simp at he⟩
theorem prim_union {f:Nat} {p:List AV→H→Option (AV × H)} {pd:Nat→List AV→H→Option (AV × H)} (h:∀ d,cJ P f (pd d)) (hu:∀ a h r,p a h=some r→∃ d,pd d a h=some r):cJ P f p:=
 ⟨(h 0).1,fun args h0 v h' he=>by
  obtain⟨d,hd⟩:=hu args h0 _ he
  exact(h d).2 args h0 v h' hd⟩
end
end Go.Ev
