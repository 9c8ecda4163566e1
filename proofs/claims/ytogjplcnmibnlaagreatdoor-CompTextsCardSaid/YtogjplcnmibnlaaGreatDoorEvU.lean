/- A region that draws its order: where two of its operations have no order, both orders suffice. -/
import Derived.Test.YtogjplcnmibnlaaGreatDoorEvM
import Derived.ProofKit
import Derived.OpenShut
set_option autoImplicit false
set_option linter.unusedSectionVars false
set_option linter.unusedVariables false
set_option linter.unusedSimpArgs false
namespace Go.Ev
theorem addEdge_size (ops:Array Oper) (b a:Nat):(addEdge ops b a).size=ops.size:=by simp[addEdge]
theorem addEdge_get (ops:Array Oper) (b a i:Nat):(addEdge ops b a)[i]?=if b=i then(ops[i]?).map (fun o=>{ o with after:=o.after.push ⟨a,.data⟩ })else ops[i]?:=by
 simp only[addEdge,Array.getElem?_modify]
section
variable {P:Program} {ops:Array Oper} {Q:Exit→Act→World→Prop}
theorem fE {listed:Array Bool} {b a i:Nat}:i∈Region.ready .any (addEdge ops b a) listed↔i∈Region.ready .any ops listed∧(i=b→listed.getD a false=true):=by
 unfold Region.ready
 rw[addEdge_size]
 simp only[List.mem_filter,addEdge_get,Bool.and_eq_true]
 by_cases hb:b=i
 ·subst hb
  simp only[if_true]
  cases hi:ops[b]? with
  | none=>simp
  | some o=>
   have hb2:(!Region.binds .any (⟨a,.data⟩:Edge)||listed.getD a false)=listed.getD a false:=rfl
   simp only[Option.map_some,Option.getD_some,Array.all_push]
   rw[hb2]
   simp only[Bool.and_eq_true]
   constructor
   ·rintro⟨h1,h2,h3,h4⟩
    exact⟨⟨h1,h2,h3⟩,fun _=>h4⟩
   ·rintro⟨⟨h1,h2,h3⟩,h4⟩
    exact⟨h1,h2,h3,by simpa using h4⟩
 ·rw[if_neg hb]
  constructor
  ·rintro⟨h1,h2⟩
   exact⟨⟨h1,h2⟩,fun e=>absurd e.symm hb⟩
  ·rintro⟨h,_⟩
   exact h
theorem wpOp_addEdge {b a i:Nat} {K:Act→World→Prop} {act:Act} {w:World}:wpOp P (addEdge ops b a) Q i K act w↔wpOp P ops Q i K act w:=by
 have hy:yielded (addEdge ops b a) act.tmps=yielded ops act.tmps:=by
  funext j
  have:((addEdge ops b a)[j]?).bind (·.dst)=(ops[j]?).bind (·.dst):=by
   rw[addEdge_get]
   split
   ·cases ops[j]?<;>rfl
   ·rfl
  unfold yielded
  rw[this]
 unfold wpOp
 rw[hy,addEdge_get]
 by_cases hb:b=i
 ·rw[if_pos hb]
  cases hi:ops[i]? with
  | none=>exact Iff.rfl
  | some o=>exact Iff.rfl
 ·rw[if_neg hb]
theorem listed_stays {listed:Array Bool} {a i:Nat} (h:listed.getD a false=true):(listed.setIfInBounds i true).getD a false=true:=by
 rw[Array.getD_eq_getD_getElem?]at h ⊢
 rw[Array.getElem?_setIfInBounds]
 split
 ·rename_i e
  subst e
  cases hl:listed[i]? with
  | none=>rw[hl]at h;simp at h
  | some v=>
   have:=(Array.getElem?_eq_some_iff.1 hl).1
   simp[this]
 ·exact h
theorem listed_now {listed:Array Bool} {i:Nat} (h:i<listed.size):(listed.setIfInBounds i true).getD i false=true:=by
 rw[Array.getD_eq_getD_getElem?,Array.getElem?_setIfInBounds_self_of_lt h]
 rfl
theorem wpAny_done {b a:Nat}:∀ (fuel:Nat) {listed:Array Bool} {act:Act} {w:World},listed.getD a false=true→wpAny P .any (addEdge ops b a) Q fuel listed act w→wpAny P .any ops Q fuel listed act w
 | 0,listed,act,w,ha,h=>by
  refine⟨List.eq_nil_iff_forall_not_mem.2 fun i hi => ?_,h.2⟩
  have:=(fE (b:=b) (a:=a)).2 ⟨hi,fun _=>ha⟩
  rw[h.1]at this
  cases this
 | fuel+1,listed,act,w,ha,h=>by
  refine⟨fun hr=>h.1 (List.eq_nil_iff_forall_not_mem.2 fun i hi => ?_),fun i hi => ?_⟩
  ·have:=(fE.1 hi).1
   rw[hr]at this
   cases this
  ·exact wpOp_mono (fun _ _ hk=>wpAny_done fuel (listed_stays ha) hk) (wpOp_addEdge.1 (h.2 i ((fE (b:=b) (a:=a)).2 ⟨hi,fun _=>ha⟩)))
theorem wpAny_split {a b:Nat} (hab:a≠b) (hc:∀ i,i≠a→i≠b→∀ (K1 K2:Act→World→Prop) act w,wpOp P ops Q i K1 act w→wpOp P ops Q i K2 act w→wpOp P ops Q i (fun x y=>K1 x y∧K2 x y) act w) :
  ∀ (fuel:Nat) {listed:Array Bool} {act:Act} {w:World},a<listed.size→b<listed.size→wpAny P .any (addEdge ops b a) Q fuel listed act w→wpAny P .any (addEdge ops a b) Q fuel listed act w→wpAny P .any ops Q fuel listed act w
 | 0,listed,act,w,la,lb,h1,h2=>by
  refine⟨List.eq_nil_iff_forall_not_mem.2 fun i hi => ?_,h1.2⟩
  by_cases e:i=b
  ·subst e
   have:=(fE (b:=a) (a:=i)).2 ⟨hi,fun e=>absurd e.symm hab⟩
   rw[h2.1]at this
   cases this
  ·have:=(fE (b:=b) (a:=a)).2 ⟨hi,fun e2=>absurd e2 e⟩
   rw[h1.1]at this
   cases this
 | fuel+1,listed,act,w,la,lb,h1,h2=>by
  refine⟨fun hr=>h1.1 (List.eq_nil_iff_forall_not_mem.2 fun i hi => ?_),fun i hi => ?_⟩
  ·have:=(fE.1 hi).1
   rw[hr]at this
   cases this
  ·by_cases ea:i=a
   ·subst ea
    exact wpOp_mono (fun _ _ hk=>wpAny_done fuel (listed_now la) hk) (wpOp_addEdge.1 (h1.2 i (fE.2 ⟨hi,fun e=>absurd e hab⟩)))
   ·by_cases eb:i=b
    ·subst eb
     exact wpOp_mono (fun _ _ hk=>wpAny_done fuel (listed_now lb) hk) (wpOp_addEdge.1 (h2.2 i (fE.2 ⟨hi,fun e=>absurd e ea⟩)))
    ·have k1:=wpOp_addEdge.1 (h1.2 i (fE.2 ⟨hi,fun e=>absurd e eb⟩))
     have k2:=wpOp_addEdge.1 (h2.2 i (fE.2 ⟨hi,fun e=>absurd e ea⟩))
     exact wpOp_mono (fun _ _ hk=>wpAny_split hab hc fuel (by rw[Array.size_setIfInBounds];exact la) (by rw[Array.size_setIfInBounds];exact lb) hk.1 hk.2) (hc i ea eb _ _ act w k1 k2)
def Calm (P:Program) (o:Oper):Prop:=∀ (ρ:Operand→Value) w n w',(execOp ρ o).run P w = .ok n w'→(∃ v,n = .value v)∨n = .skip
def calmB:Op→Bool
 | .move .. | .assign .. | .pick .. | .alloc .. | .box .. | .build .. | .buildSlice .. | .load .. | .store .. | .binOp .. | .unOp .. | .convert .. | .makeInterface .. | .makeFunc .. | .makeMap .. | .slice .. | .fieldAddr .. | .field .. | .indexAddr .. | .index .. | .lookup .. | .mapUpdate .. | .insert .. | .extract .. | .nilCheck ..=>true
 | .call c=>match c.callee with
  | .builtin .len=>true
  | .builtin .append=>true
  | _=>false
 | _=>false
theorem v_calm {s:Sem Value} {w:World} {n:Next} {w':World} (h:(do pure (Next.value (←s)):Sem Next).run P w = .ok n w'):∃ v,n = .value v:=by
 rw[Sem.run_bind]at h
 cases hr:s.run P w with
 | ok x w1=>
  rw[hr]at h
  simp only[Result.andThen_ok,Sem.run_pure,Result.ok.injEq]at h
  exact⟨x,h.1.symm⟩
 | halt x w1=>rw[hr]at h;cases h
theorem u_calm {s:Sem Unit} {w:World} {n:Next} {w':World} (h:(do s;pure Next.skip:Sem Next).run P w = .ok n w'):n = .skip:=by
 rw[Sem.run_bind]at h
 cases hr:s.run P w with
 | ok x w1=>
  rw[hr]at h
  simp only[Result.andThen_ok,Sem.run_pure,Result.ok.injEq]at h
  exact h.1.symm
 | halt x w1=>rw[hr]at h;cases h
def CalmS (P:Program) (s:Sem Next):Prop:=∀ w n w',s.run P w = .ok n w'→∃ v,n = .value v
theorem calmS_pure (v:Value):CalmS P (pure (Next.value v)):=by
 intro w n w' hr
 simp only[Sem.run_pure,Result.ok.injEq]at hr
 exact⟨_,hr.1.symm⟩
theorem calmS_bind {α:Type} {s:Sem α} {f:α→Sem Next} (h:∀ x,CalmS P (f x)):CalmS P (s >>= f):=by
 intro w n w' hr
 rw[Sem.run_bind]at hr
 cases hs:s.run P w with
 | ok x w1=>rw[hs]at hr;exact h x _ _ _ hr
 | halt x w1=>rw[hs]at hr;cases hr
theorem calmS_panic:CalmS P (runtimePanic .nilDeref):=by
 intro w n w' hr
 have:(runtimePanic .nilDeref:Sem Next).run P w = .halt (.panic (.iface P.rt.errorString (strVal "invalid memory address or nil pointer dereference"))) w:=rfl
 rw[this]at hr
 cases hr
theorem calm_of {o:Oper} (h:calmB o.op=true):Calm P o:=by
 intro ρ w n w' hr
 unfold execOp at hr
 cases ho:o.op<;>rw[ho]at h hr<;>simp only[calmB,Bool.false_eq_true]at h
 case pick c a b=>
  refine .inl ?_
  simp only[Sem.run_bind]at hr
  cases hb:(asBool (ρ c)).run P w with
  | ok x w1=>
   rw[hb]at hr
   simp only[Result.andThen_ok,Sem.run_pure,Result.ok.injEq]at hr
   exact⟨_,hr.1.symm⟩
  | halt x w1=>rw[hb]at hr;cases hr
 case nilCheck x=>
  refine .inl ((?_:CalmS P _) w n w' hr)
  dsimp only
  split
  ·exact calmS_panic
  ·exact calmS_panic
  ·exact calmS_panic
  ·split
   ·exact calmS_panic
   ·refine calmS_bind fun _=>calmS_bind fun _ => ?_
    split
    ·exact calmS_bind fun _=>calmS_pure _
    ·exact calmS_pure _
   ·exact calmS_pure _
  ·exact calmS_pure _
 case call c=>
  obtain⟨cal,args,ats⟩:=c
  simp only at h
  split at h
  ·simp only[resolve,Sem.run_bind,Sem.run_pure,Result.andThen_ok,invoke,builtin]at hr
   exact .inl (v_calm (by simpa only[Sem.run_bind,Sem.run_pure]using hr))
  ·simp only[resolve,Sem.run_bind,Sem.run_pure,Result.andThen_ok,invoke,builtin]at hr
   exact .inl (v_calm (by simpa only[Sem.run_bind,Sem.run_pure]using hr))
  ·cases h
 all_goals first
  | exact .inl (v_calm hr)
  | exact .inr (u_calm hr)
  | (simp only[Sem.run_pure,Result.ok.injEq]at hr;exact .inl ⟨_,hr.1.symm⟩)
theorem calm_conj {i:Nat} (h:∀ o,ops[i]?=some o→Calm P o) (K1 K2:Act→World→Prop) (act:Act) (w:World) (h1:wpOp P ops Q i K1 act w) (h2:wpOp P ops Q i K2 act w):wpOp P ops Q i (fun x y=>K1 x y∧K2 x y) act w:=by
 unfold wpOp at *
 cases ho:ops[i]? with
 | none=>rw[ho]at h1 h2;exact⟨h1,h2⟩
 | some o=>
  rw[ho]at h1 h2
  simp only at h1 h2 ⊢
  split
  ·rename_i hw
   rw[if_pos hw]at h1 h2
   rcases h1 with h1|h1
   ·rcases h2 with h2|h2
    ·refine .inl ?_
     have hc:=h o ho act.eval w
     unfold Oper.wp at *
     generalize (execOp act.eval o).run P w=r at *
     cases r with
     | ok n w'=>
      rcases hc n w' rfl with ⟨v,rfl⟩|rfl
      ·exact⟨h1,h2⟩
      ·exact⟨h1,h2⟩
     | halt x w'=>cases x<;>first|exact h1|exact h2
    ·exact .inr h2
   ·exact .inr h1
  ·rename_i hw
   rw[if_neg hw]at h1 h2
   exact⟨h1,h2⟩
end
theorem T.same_eq {α:Type} {f:α→α→Bool} (hf:∀ x y,f x y=true→x=y):∀ {t u:T α},T.same f t u=true→t=u
 | .e,.e,_=>rfl
 | .e,.n _ _ _,h=>by simp[T.same]at h
 | .n _ _ _,.e,h=>by simp[T.same]at h
 | .n a l r,.n b m s,h=>by
  simp only[T.same,Bool.and_eq_true]at h
  obtain⟨h1,h2,h3⟩:=h
  rw[T.same_eq hf h2,T.same_eq hf h3]
  cases a with
  | none=>cases b with
   | none=>rfl
   | some y=>simp at h1
  | some x=>cases b with
   | none=>simp at h1
   | some y=>rw[hf x y h1]
theorem pairsSame_eq:∀ {l m:List (AV × AV)},pairsSame l m=true→l=m
 | [],[],_=>rfl
 | [],_::_,h=>by simp[pairsSame]at h
 | _::_,[],h=>by simp[pairsSame]at h
 | (a,b)::l,(c,d)::m,h=>by
  simp only[pairsSame,Bool.and_eq_true]at h
  rw[AV.beq_eq _ _ h.1,AV.beq_eq _ _ h.2.1,pairsSame_eq h.2.2]
theorem objSame_eq (a b:Obj) (h:objSame a b=true):a=b:=by
 cases a<;>cases b<;>simp only[objSame,Bool.false_eq_true,Bool.and_eq_true,bV]at h
 ·rw[AV.beqs_eq _ _ h]
 ·rw[pairsSame_eq h]
 ·rw[h.1,h.2.1,h.2.2]
 ·rw[h.1,h.2.1,h.2.2.1,AV.beqs_eq _ _ h.2.2.2]
theorem stSame_eq {x y:Tm × H} (h:stSame x y=true):x=y:=by
 obtain⟨a,b,n⟩:=x
 obtain⟨c,d,m⟩:=y
 simp only[stSame,Bool.and_eq_true]at h
 rw[T.same_eq AV.beq_eq h.1,T.same_eq objSame_eq h.2.1,bV.1 h.2.2]
section
variable [Inhabited KA0] [MT]
def altOk:Array Oper→Alt→Bool
 | ops,.leaf pl=>planOk ops pl
 | ops,.split a b l r => !Nat.beq a b&&(Nat.blt a ops.size&&(Nat.blt b ops.size&&((List.range ops.size).all (fun i=>Nat.beq i a||(Nat.beq i b||(match ops[i]? with|some o=>calmB o.op|none=>true)))&&(altOk (addEdge ops b a) l&&altOk (addEdge ops a b) r))))
variable {P:Program} {ty:Nat→Option TyI} {call:fO} {n:Nat}
theorem alt_any (hA:ActOk P ty call) (hN:AllocOk P ty) {G:Gh} {w:World} {h:H} {tm:Tm} {a:Act} (I:Inv G w h) {res:Tm × H} (Q:Exit→Act→World→Prop)
  (hQ:∀ G' w' a',Inv G' w' res.2→Ext G w h G' w' res.2→TmR G' w' n res.1 a'→a'.defers=a.defers→Q .normal a' w') (T:TmR G w n tm a) :
  ∀ (alt:Alt) (ops:Array Oper),altOk ops alt=true→evAlt call ty n ops alt tm h=some res→wpAny P .any ops Q ops.size (Array.replicate ops.size false) a w.drew
 | .leaf pl,ops,ho,he=>draw_sim0 hA hN ho I T he Q hQ
 | .split i j l r,ops,ho,he=>by
  simp only[altOk,Bool.and_eq_true,Bool.not_eq_true']at ho
  obtain⟨o1,o2,o3,o4,o5,o6⟩:=ho
  have hij:i≠j:=by rintro rfl;rw[bV.2 rfl]at o1;cases o1
  simp only[evAlt]at he
  cases h1:evAlt call ty n (addEdge ops j i) l tm h with
  | none=>rw[h1]at he;simp at he
  | some x=>
   cases h2:evAlt call ty n (addEdge ops i j) r tm h with
   | none=>rw[h1,h2]at he;simp at he
   | some y=>
    rw[h1,h2]at he
    simp only at he
    cases hs:stSame x y with
    | false=>rw[hs]at he;simp at he
    | true=>
     rw[hs]at he
     simp only[cond_true,Option.some.injEq]at he
     subst he
     have:=stSame_eq hs
     subst this
     have k1:=alt_any hA hN I Q hQ T l (addEdge ops j i) o5 h1
     have k2:=alt_any hA hN I Q hQ T r (addEdge ops i j) o6 h2
     rw[addEdge_size]at k1 k2
     refine wpAny_split hij (fun q e1 e2 K1 K2 act w'=>calm_conj (fun o hq=>calm_of ?_) K1 K2 act w') ops.size (by simpa using cR.1 o2) (by simpa using cR.1 o3) k1 k2
     have hql:q<ops.size:=(Array.getElem?_eq_some_iff.1 hq).1
     have:=List.all_eq_true.1 o4 q (by simpa using hql)
     rw[beq_no e1,beq_no e2,hq]at this
     simpa using this
theorem alt_sim (hA:ActOk P ty call) (hN:AllocOk P ty) (hm:P.follows .mixedOrders=true) {ops:Array Oper} {alt:Alt} (hp:altOk ops alt=true) {G:Gh} {w:World} {h:H} {tm:Tm} {a:Act} (I:Inv G w h) (T:TmR G w n tm a)
  {res:Tm × H} (he:evAlt call ty n ops alt tm h=some res) (id:Nat) (Q:Exit→Act→World→Prop)
  (hQ:∀ G' w' a',Inv G' w' res.2→Ext G w h G' w' res.2→TmR G' w' n res.1 a'→a'.defers=a.defers→Q .normal a' w'):(Code.region id ops true).wp P Q a w:=
 wp_region_any hm (alt_any hA hN I Q hQ T alt ops hp he)
end
variable [Inhabited KA0] [MT]
def codeOk (plan:Nat→Option (List PE)) (alt:Nat→Option Alt):Code→Bool
 | .region id ops true=>match plan id with
  | none=>match alt id with
   | none=>true
   | some al=>altOk ops al
  | some pl=>planOk ops pl
 | .seq a b=>codeOk plan alt a&&codeOk plan alt b
 | .cond _ a b=>codeOk plan alt a&&codeOk plan alt b
 | .block _ b=>codeOk plan alt b
 | .loop b=>codeOk plan alt b
 | _=>true
structure dW (P:Program) (E:Env):Prop where
 mixed:P.follows .mixedOrders=true
 ty:TyOk P E.ty
 fns:∀ f fn,E.fns f=some fn→P.funcs[f]?=some fn∧(fn.name == "runtime.NumGoroutine")=false
 plans:∀ f fn c,E.fns f=some fn→fn.body=some c→codeOk (E.plan f) (E.alt f) c=true
 prims:∀ f p,E.prim f=some p→(∃ fn,P.funcs[f]?=some fn∧(fn.name == "runtime.NumGoroutine")=false∧fn.body.isNone=false) ∧
  ∀ args h v h',p args h=some (v,h')→∀ G w (A:Array Value),Inv G w h→VRs G w A.toList args→Calls P f A w (Post G w h v h')
def exOf:Ex→Exit
 | .normal => .normal
 | .exit id => .exit id
 | .ret => .ret
section
variable {P:Program} {E:Env}
theorem code_sim (hE:dW P E) {call:fO} (hC:CallOk P call) (f n:Nat):∀ (k:Nat) (c:Code) {G:Gh} {w:World} {h:H} {tm:Tm} {a:Act} {ex:Ex} {tm':Tm} {h':H},codeOk (E.plan f) (E.alt f) c=true→Inv G w h→TmR G w n tm a →
  aJ call E f n k c tm h=some (ex,tm',h')→∀ (Q:Exit→Act→World→Prop),(∀ G' w' a',Inv G' w' h'→Ext G w h G' w' h'→TmR G' w' n tm' a'→a'.defers=a.defers→Q (exOf ex) a' w') →
  c.wp P Q a w∧∀ b,c = .loop b→Code.rounds P b Q k a w:=by
 have hA:=act_sim hE.ty hC
 intro k
 induction k with
 | zero=>intro c G w h tm a ex tm' h' _ _ _ he;simp[aJ]at he
 | succ k ih=>
  intro c G w h tm a ex tm' h' hco I T he Q hQ
  cases c<;>simp only[aJ,reduceCtorEq]at he
  case skip=>
   simp only[Option.some.injEq,Prod.mk.injEq]at he
   obtain⟨rfl,rfl,rfl⟩:=he
   exact⟨wp_skip (hQ G w a I (Ext.refl G w h) T rfl),fun b e=>by cases e⟩
  case label l=>
   simp only[Option.some.injEq,Prod.mk.injEq]at he
   obtain⟨rfl,rfl,rfl⟩:=he
   exact⟨wp_label (hQ G w a I (Ext.refl G w h) T rfl),fun b e=>by cases e⟩
  case exit id=>
   simp only[Option.some.injEq,Prod.mk.injEq]at he
   obtain⟨rfl,rfl,rfl⟩:=he
   exact⟨wp_exit (hQ G w a I (Ext.refl G w h) T rfl),fun b e=>by cases e⟩
  case ret=>
   simp only[Option.some.injEq,Prod.mk.injEq]at he
   obtain⟨rfl,rfl,rfl⟩:=he
   exact⟨wp_ret (hQ G w a I (Ext.refl G w h) T rfl),fun b e=>by cases e⟩
  case region id ops dr=>
   refine⟨?_,fun b e=>by cases e⟩
   cases dr with
   | false=>
    simp only at he
    cases hs:bC call E.ty n ops ops.toList tm h with
    | none=>rw[hs]at he;simp at he
    | some p=>
     obtain⟨t1,h1⟩:=p
     rw[hs]at he
     simp only[Option.some.injEq,Prod.mk.injEq]at he
     obtain⟨rfl,rfl,rfl⟩:=he
     refine wp_region ?_
     have:=seq_sim hA ops.toList 0 (fun j=>by simp) I T hs Q hQ
     rw[List.range_eq_range']
     simpa using this
   | true=>
    simp only at he
    cases hp:E.plan f id with
    | none=>
     rw[hp]at he
     simp only at he
     cases hal:E.alt f id with
     | none=>rw[hal]at he;simp at he
     | some al=>
      rw[hal]at he
      simp only at he
      cases hs:evAlt call E.ty n ops al tm h with
      | none=>rw[hs]at he;simp at he
      | some p=>
       obtain⟨t1,h1⟩:=p
       rw[hs]at he
       simp only[Option.some.injEq,Prod.mk.injEq]at he
       obtain⟨rfl,rfl,rfl⟩:=he
       simp only[codeOk,hp,hal]at hco
       exact alt_sim hA (new_sim hE.ty) hE.mixed hco I T hs id Q hQ
    | some pl=>
     rw[hp]at he
     simp only at he
     cases hs:bI call E.ty n ops pl tm h with
     | none=>rw[hs]at he;simp at he
     | some p=>
      obtain⟨t1,h1⟩:=p
      rw[hs]at he
      simp only[Option.some.injEq,Prod.mk.injEq]at he
      obtain⟨rfl,rfl,rfl⟩:=he
      simp only[codeOk,hp]at hco
      exact draw_sim hA (new_sim hE.ty) hE.mixed hco I T hs id Q hQ
  case seq x y=>
   refine⟨?_,fun b e=>by cases e⟩
   simp only[codeOk,Bool.and_eq_true]at hco
   cases hx:aJ call E f n k x tm h with
   | none=>rw[hx]at he;simp at he
   | some p=>
    obtain⟨ex1,t1,h1⟩:=p
    rw[hx]at he
    refine wp_seq (ih x hco.1 I T hx _ fun G1 w1 a1 I1 E1 T1 hd1 => ?_).1
    cases ex1 with
    | normal=>
     simp only at he
     show y.wp P Q a1 w1
     exact(ih y hco.2 I1 T1 he Q fun G2 w2 a2 I2 E2 T2 hd2=>hQ G2 w2 a2 I2 (E1.trans E2) T2 (hd2.trans hd1)).1
    | exit j=>
     simp only[Option.some.injEq,Prod.mk.injEq]at he
     obtain⟨rfl,rfl,rfl⟩:=he
     exact hQ G1 w1 a1 I1 E1 T1 hd1
    | ret=>
     simp only[Option.some.injEq,Prod.mk.injEq]at he
     obtain⟨rfl,rfl,rfl⟩:=he
     exact hQ G1 w1 a1 I1 E1 T1 hd1
  case cond c x y=>
   refine⟨?_,fun b e=>by cases e⟩
   simp only[codeOk,Bool.and_eq_true]at hco
   cases hc:val tm c with
   | none=>rw[hc]at he;simp at he
   | some v=>
    rw[hc]at he
    have hv:=val_VR T.val hc
    cases v<;>simp only[reduceCtorEq]at he
    rename_i t
    have hcv:a.eval c = .bool t:=by
     generalize a.eval c=z at hv
     cases hv
     rfl
    refine wp_cond hcv ?_
    cases t with
    | true=>exact(ih x hco.1 I T he Q hQ).1
    | false=>exact(ih y hco.2 I T he Q hQ).1
  case block id b=>
   refine⟨?_,fun b e=>by cases e⟩
   simp only[codeOk]at hco
   cases hb:aJ call E f n k b tm h with
   | none=>rw[hb]at he;simp at he
   | some p=>
    obtain⟨ex1,t1,h1⟩:=p
    rw[hb]at he
    refine wp_block (ih b hco I T hb _ fun G1 w1 a1 I1 E1 T1 hd1 => ?_).1
    cases ex1 with
    | normal=>
     simp only[Option.some.injEq,Prod.mk.injEq]at he
     obtain⟨rfl,rfl,rfl⟩:=he
     exact hQ G1 w1 a1 I1 E1 T1 hd1
    | exit j=>
     simp only[Option.some.injEq,Prod.mk.injEq]at he
     obtain⟨rfl,rfl,rfl⟩:=he
     have:=hQ G1 w1 a1 I1 E1 T1 hd1
     simp only[exOf,Exit.inBlock]
     by_cases e:j=id
     ·rw[if_pos e]
      rw[bV.2 e]at this
      exact this
     ·rw[if_neg e]
      rw[beq_no e]at this
      exact this
    | ret=>
     simp only[Option.some.injEq,Prod.mk.injEq]at he
     obtain⟨rfl,rfl,rfl⟩:=he
     exact hQ G1 w1 a1 I1 E1 T1 hd1
  case loop b=>
   simp only[codeOk]at hco
   have hr:Code.rounds P b Q (k+1) a w:=by
    rw[rounds_succ]
    cases hb:aJ call E f n k b tm h with
    | none=>rw[hb]at he;simp at he
    | some p=>
     obtain⟨ex1,t1,h1⟩:=p
     rw[hb]at he
     refine(ih b hco I T hb _ fun G1 w1 a1 I1 E1 T1 hd1 => ?_).1
     cases ex1 with
     | normal=>
      simp only at he
      show Code.rounds P b Q k a1 w1
      exact(ih (.loop b) (by simpa[codeOk]using hco) I1 T1 he Q fun G2 w2 a2 I2 E2 T2 hd2=>hQ G2 w2 a2 I2 (E1.trans E2) T2 (hd2.trans hd1)).2 b rfl
     | exit j=>
      simp only[Option.some.injEq,Prod.mk.injEq]at he
      obtain⟨rfl,rfl,rfl⟩:=he
      exact hQ G1 w1 a1 I1 E1 T1 hd1
     | ret=>
      simp only[Option.some.injEq,Prod.mk.injEq]at he
      obtain⟨rfl,rfl,rfl⟩:=he
      exact hQ G1 w1 a1 I1 E1 T1 hd1
   exact⟨wp_loop_rounds (k+1) hr,fun b' e=>by simp only[Code.loop.injEq]at e;subst e;exact hr⟩
theorem setArgs_get:∀ (args:List AV) (i:Nat) (tm:Tm) (t:Nat),(setArgs i args tm).get t=if i≤t∧t<i+args.length then args[t-i]? else tm.get t
 | [],i,tm,t=>by simp[setArgs];intro h1 h2;omega
 | v::l,i,tm,t=>by
  rw[setArgs,setArgs_get l (i+1) (tm.set i v) t]
  by_cases h1:t=i
  ·subst h1
   rw[if_neg (by omega),if_pos (by simp),Go.Ev.T.bO]
   simp
  ·rw[Go.Ev.T.aD _ _ h1]
   by_cases h2:i+1≤t∧t<i+1+l.length
   ·rw[if_pos h2,if_pos (by simp;omega),show t-i=(t-(i+1))+1 by omega]
    simp
   ·rw[if_neg h2,if_neg (by simp;omega)]
def resOne (tmps:Array Value):ResultVar→Sem Value
 | .tmp t=>pure (tmps.getD t undef)
 | .cell a t=>do loadVar t (←asAddr (tmps.getD a undef))
theorem results_eq (fn:Func) (tmps:Array Value):results fn tmps=(do
  let vs ←fn.results.mapM (resOne tmps)
  pure (if h:vs.size=1 then vs[0]else .tuple vs)):=by
 unfold results
 congr 1
theorem res_sim {ty:Nat→Option TyI} (hT:TyOk P ty) {G:Gh} {w:World} {h:H} {n:Nat} {tm:Tm} {a:Act} (I:Inv G w h) (T:TmR G w n tm a) {l:List ResultVar} {vs:List AV} (he:bQ ty tm h l=some vs) :
  ∃ Vs:List Value,(l.mapM (resOne a.tmps)).run P w = .ok Vs w∧VRs G w Vs vs:=by
 induction l generalizing vs with
 | nil=>simp[bQ]at he;subst he;exact⟨[],rfl,VRs.nil G w⟩
 | cons r l ih=>
  cases r with
  | tmp t=>
   simp only[bQ]at he
   split at he
   ·rename_i v m hv hm
    simp only[Option.some.injEq]at he
    subst he
    obtain⟨Vs,h1,h2⟩:=ih hm
    refine⟨a.tmps.getD t undef::Vs,?_,.cons (T.val t v hv) h2⟩
    simp only[List.mapM_cons,resOne,Sem.run_bind,Sem.run_pure,Result.andThen_ok,h1]
   ·simp at he
  | cell x t=>
   simp only[bQ]at he
   split at he
   ·rename_i v h0 m hv hm
    simp only[Option.some.injEq]at he
    subst he
    obtain⟨Vs,h1,h2⟩:=ih hm
    have hR:aQ ty tm h (.load t (.tmp x))=some v:=by
     unfold bT at hv
     simp only[aL]at hv
     cases hr:aQ ty tm h (.load t (.tmp x))with
     | none=>rw[hr]at hv;simp at hv
     | some v'=>
      rw[hr]at hv
      simp only[Option.some.injEq,Prod.mk.injEq]at hv
      rw[hv.1]
    obtain⟨b,off,V,e1,e2,e3⟩:∃ b off V,a.tmps.getD x undef = .pointer (some ⟨b,off,none⟩)∧(Instr.loadAt t (.pointer (some ⟨b,off,none⟩))).run P w = .ok V w∧VR G w V v:=by
     simp only[aQ,val]at hR
     split at hR
     ·rename_i i cs hti hx
      obtain⟨inf,d,g1,g2,_,g3,_,_,g4⟩:=bM (hT _ _ hti)
      have hU:=T.val x _ hx
      generalize a.tmps.getD x undef=z at hU
      cases hU
      rename_i b off f k1 k2
      obtain⟨V,j1,j2⟩:=load_sim g1 g2 b off cs f (fun j hj=>(k1 j hj).1) k2 (by rw[←g3,←g4];exact hR)
      exact⟨b,off,V,rfl,j1,j2⟩
     ·rename_i i id off hti hx
      obtain⟨inf,d,g1,g2,_,g3,_,_,g4⟩:=bM (hT _ _ hti)
      have hU:=T.val x _ hx
      generalize a.tmps.getD x undef=z at hU
      cases hU
      rename_i b hr
      split at hR
      ·rename_i cs hcs
       obtain⟨V,k1,k2⟩:=load_ptr I g1 g2 hr hcs (by rw[←g3,←g4];exact hR)
       exact⟨b,off,V,rfl,k1,k2⟩
      ·simp at hR
     ·rename_i i id len off hti hx
      obtain⟨inf,d,g1,g2,_,g3,_,_,g4⟩:=bM (hT _ _ hti)
      have hU:=T.val x _ hx
      generalize a.tmps.getD x undef=z at hU
      cases hU
      rename_i b hr
      split at hR
      ·rename_i nn e s cs hcs
       cases hc:Nat.beq nn len with
       | false=>rw[hc]at hR;simp at hR
       | true=>
        rw[hc]at hR
        simp only[cond_true]at hR
        have:=bV.1 hc
        subst this
        obtain⟨V,k1,k2⟩:=load_row I g1 g2 hr hcs (by rw[←g3,←g4];exact hR)
        exact⟨b,off,V,rfl,k1,k2⟩
      ·simp at hR
     ·simp at hR
    refine⟨V::Vs,?_,.cons e3 h2⟩
    have e2':(loadVar t ⟨b,off,none⟩).run P w = .ok V w:=by simpa[Instr.loadAt,Instr.sureAddr]using e2
    have e4:(resOne a.tmps (.cell x t)).run P w = .ok V w:=by simp only[resOne,e1,asAddr,Sem.run_bind,Sem.run_pure,Result.andThen_ok,e2']
    simp only[List.mapM_cons,Sem.run_bind,Sem.run_pure,Result.andThen_ok,h1,e4]
   ·simp at he
def aT (ty:Nat→Option TyI) (rs:List ResultVar):Option (Ex × Tm × H)→Option (AV × H)
 | some (.normal,tm,h)=>match bQ ty tm h rs with
  | some l=>some (bS l,h)
  | none=>none
 | some (.ret,tm,h)=>match bQ ty tm h rs with
  | some l=>some (bS l,h)
  | none=>none
 | _=>none
theorem body_sim (hE:dW P E) {call:fO} (hC:CallOk P call) {f k:Nat} {fn:Func} {c:Code} {args:List AV} {h h':H} {v:AV} (hf:E.fns f=some fn) (hb:fn.body=some c) (hn:Nat.ble args.length fn.ntmps=true)
  (he:aT E.ty fn.results.toList (aJ call E f fn.ntmps k c (setArgs 0 args .e) h)=some (v,h')) :
  (∃ fn,P.funcs[f]?=some fn∧(fn.name == "runtime.NumGoroutine")=false∧fn.body.isNone=false) ∧
  ∀ G w (A:Array Value),Inv G w h→VRs G w A.toList args→Calls P f A w (Post G w h v h'):=by
 have hle:=Nat.le_of_ble_eq_true hn
 obtain⟨q1,q2⟩:=hE.fns f fn hf
 refine⟨⟨fn,q1,q2,by rw[hb];rfl⟩,fun G w A I hA => ?_⟩
 have hAl:A.size=args.length:=by have:=hA.1;simpa using this
 have T0:TmR G w fn.ntmps (setArgs 0 args .e) { tmps:=A++Array.replicate (fn.ntmps-A.size) undef,defers:=[] }:=by
  refine⟨by simp;omega,fun t u ht => ?_⟩
  rw[setArgs_get]at ht
  split at ht
  ·rename_i hlt
   rw[Nat.sub_zero]at ht
   have hta:t<A.size:=by omega
   have e:(A++Array.replicate (fn.ntmps-A.size) undef).getD t undef=A[t]:=by
    rw[Array.getD_eq_getD_getElem?,Array.getElem?_append_left hta,Array.getElem?_eq_getElem hta]
    rfl
   rw[e]
   exact hA.2 t A[t] u (by simp[hta]) ht
  ·rw[T.get_e]at ht;cases ht
 have fin:∀ {ex:Ex} {tm:Tm} {h1:H},(ex = .normal∨ex = .ret)→aJ (call) E f fn.ntmps k c (setArgs 0 args .e) h=some (ex,tm,h1) →
   (match bQ E.ty tm h1 fn.results.toList with|some l=>some (bS l,h1)|none=>none)=some (v,h')→Calls P f A w (Post G w h v h'):=by
  intro ex tm h1 hex hc hr
  cases hres:bQ E.ty tm h1 fn.results.toList with
  | none=>rw[hres]at hr;simp at hr
  | some l=>
   rw[hres]at hr
   simp only[Option.some.injEq,Prod.mk.injEq]at hr
   obtain⟨rfl,rfl⟩:=hr
   refine calls_of_wp q1 hb ?_
   refine(code_sim hE hC f fn.ntmps k c (hE.plans f fn c hf hb) I T0 hc _ fun G' w' a' I' E' T' hd => ?_).1
   obtain⟨Vs,k1,k2⟩:=res_sim hE.ty I' T' hres
   have hres':∃ V,(results fn a'.tmps).run P w' = .ok V w'∧VR G' w' V (bS l):=by
    rw[results_eq]
    simp only[Sem.run_bind]
    have e:(fn.results.mapM (resOne a'.tmps)).run P w' = .ok Vs.toArray w':=by
     rw[Array.mapM_eq_mapM_toList,Sem.run_map,k1]
     rfl
    rw[e]
    simp only[Result.andThen_ok,Sem.run_pure]
    cases l with
    | nil=>
     have:Vs=[]:=List.eq_nil_of_length_eq_zero k2.1
     subst this
     exact⟨_,rfl,.tup #[] [] rfl fun i u x hu=>by simp at hu⟩
    | cons v0 l=>
     obtain⟨V0,Vs',rfl,j1,j2⟩:=k2.uncons
     cases l with
     | nil=>
      have:Vs'=[]:=List.eq_nil_of_length_eq_zero j2.1
      subst this
      exact⟨V0,by simp,j1⟩
     | cons v1 l=>
      obtain⟨V1,Vs'',rfl,j3,j4⟩:=j2.uncons
      refine⟨.tuple (V0::V1::Vs'').toArray,by simp,.tup _ _ (by have:=k2.1;simpa using this) fun i u x hu hx=>k2.2 i u x (by simpa using hu) hx⟩
   obtain⟨V,r1,r2⟩:=hres'
   have hdf:a'.defers=[]:=hd
   rcases hex with rfl|rfl
   ·exact⟨hdf,V,r1,G',V,rfl,r2,I',E'⟩
   ·exact⟨hdf,V,r1,G',V,rfl,r2,I',E'⟩
 cases hc:aJ call E f fn.ntmps k c (setArgs 0 args .e) h with
 | none=>rw[hc]at he;simp[aT]at he
 | some r=>
  obtain⟨ex,tm,h1⟩:=r
  rw[hc]at he
  cases ex with
  | normal=>exact fin (.inl rfl) hc he
  | exit j=>simp[aT]at he
  | ret=>exact fin (.inr rfl) hc he
theorem fn_sim (hE:dW P E):∀ k,CallOk P (cG E k):=by
 intro k
 induction k with
 | zero=>intro f args h v h' he;simp[cG]at he
 | succ k ih=>
  intro f args h v h' he
  simp only[cG]at he
  cases hp:E.prim f with
  | some p=>
   rw[hp]at he
   simp only at he
   obtain⟨h1,h2⟩:=hE.prims f p hp
   exact⟨h1,fun G w A I hA=>h2 args h v h' he G w A I hA⟩
  | none=>
   rw[hp]at he
   simp only at he
   cases hf:E.fns f with
   | none=>rw[hf]at he;simp at he
   | some fn=>
    rw[hf]at he
    simp only at he
    cases hb:fn.body with
    | none=>rw[hb]at he;simp at he
    | some c=>
     rw[hb]at he
     simp only at he
     cases hn:Nat.ble args.length fn.ntmps with
     | false=>rw[hn]at he;simp at he
     | true=>
      rw[hn]at he
      simp only[cond_true]at he
      refine body_sim hE ih (k:=k) hf hb hn ?_
      rw[←he]
      rcases aJ (cG E k) E f fn.ntmps k c (setArgs 0 args .e) h with _|⟨ex,tm,h'⟩
      ·rfl
      ·cases ex<;>rfl
end
end Go.Ev
namespace Go.Ev
variable [MT]
variable [Inhabited KA0]
namespace T
variable {α:Type}
def rows:T α→Nat→Nat→List (Nat × α)
 | .e,_,_=>[]
 | .n o l r,a,b=>(match o with|none=>[]|some v=>[(b,v)])++(rows l (2*a) (a+b)++rows r (2*a) (2*a+b))
theorem rows_mem {t:T α} {k:Nat} {v:α} (h:t.get k=some v) (a b:Nat):(a*k+b,v)∈t.rows a b:=by
 induction t generalizing k a b with
 | e=>cases k<;>simp[get]at h
 | n o l r ihl ihr=>
  cases k with
  | zero=>
   simp only[get]at h
   subst h
   simp[rows]
  | succ k=>
   simp only[get]at h
   by_cases hk:k % 2=0
   ·have:Nat.beq (Nat.mod k 2) 0=true:=by
     show Nat.beq (k % 2) 0=true
     rw[hk];rfl
    rw[this]at h
    have:=ihl h (2*a) (a+b)
    simp only[rows,List.mem_append]
    refine .inr (.inl ?_)
    have e:2*a*Nat.div k 2+(a+b)=a*(k+1)+b:=by
     have:k=2*(k / 2):=by omega
     show 2*a*(k / 2)+(a+b)=a*(k+1)+b
     conv=>rhs;rw[this]
     rw[Nat.mul_add,show a*(2*(k / 2))=2*a*(k / 2) by rw[Nat.mul_comm 2 a,Nat.mul_assoc]]
     omega
    rwa [e]at this
   ·have h0:Nat.beq (Nat.mod k 2) 0=false:=by
     cases hb:Nat.beq (Nat.mod k 2) 0 with
     | false=>rfl
     | true=>exact absurd (Nat.eq_of_beq_eq_true hb) hk
    rw[h0]at h
    have:=ihr h (2*a) (2*a+b)
    simp only[rows,List.mem_append]
    refine .inr (.inr ?_)
    have e:2*a*Nat.div k 2+(2*a+b)=a*(k+1)+b:=by
     have:k=2*(k / 2)+1:=by omega
     show 2*a*(k / 2)+(2*a+b)=a*(k+1)+b
     conv=>rhs;rw[this]
     rw[Nat.mul_add,Nat.mul_add,show a*(2*(k / 2))=2*a*(k / 2) by rw[Nat.mul_comm 2 a,Nat.mul_assoc]]
     omega
    rwa [e]at this
theorem mem_rows {t:T α} {k:Nat} {v:α} (h:t.get k=some v):(k,v)∈t.rows 1 0:=by
 have:=rows_mem h 1 0
 simpa using this
end T
theorem map_at {α β:Type} {f g:α→β} {l:List α} (h:l.map f=l.map g) {x:α} (hx:x∈l):f x=g x:=by
 induction l with
 | nil=>simp at hx
 | cons a l ih=>
  simp only[List.map_cons,List.cons.injEq]at h
  rcases List.mem_cons.1 hx with e|e
  ·subst e;exact h.1
  ·exact ih h.2 e
def planLook (pt:T (T (List PE))) (f id:Nat):Option (List PE):=
 match pt.get f with
 | none=>none
 | some t=>t.get id
def mkEnv (tt:T TyI) (ft:T Func) (pt:T (T (List PE))) (pr:Nat→Option (List AV→H→Option (AV × H))):Env:=
 { ty:=tt.get,fns:=ft.get,plan:=planLook pt,prim:=pr }
theorem mkEnv_ok {P:Program} {tt:T TyI} {ft:T Func} {pt:T (T (List PE))} {pr:Nat→Option (List AV→H→Option (AV × H))}
  (mixed:P.follows .mixedOrders=true)
  (hty:(tt.rows 1 0).map (fun r=>tyOf P r.1)=(tt.rows 1 0).map (fun r=>some r.2))
  (hfn:(ft.rows 1 0).map (fun r=>P.funcs[r.1]?)=(ft.rows 1 0).map (fun r=>some r.2))
  (hnm:(ft.rows 1 0).map (fun r=>r.2.name == "runtime.NumGoroutine")=(ft.rows 1 0).map (fun _=>false))
  (hpl:(ft.rows 1 0).map (fun r=>match r.2.body with|none=>true|some c=>codeOk (planLook pt r.1) (fun _=>none) c)=(ft.rows 1 0).map (fun _=>true))
  (prims:∀ f p,pr f=some p→(∃ fn,P.funcs[f]?=some fn∧(fn.name == "runtime.NumGoroutine")=false∧fn.body.isNone=false) ∧
   ∀ args h v h',p args h=some (v,h')→∀ G w (A:Array Value),Inv G w h→VRs G w A.toList args→Calls P f A w (Post G w h v h')) :
  dW P (mkEnv tt ft pt pr) where
 mixed:=mixed
 ty:=fun t i h=>map_at hty (T.mem_rows h)
 fns:=fun f fn h=>⟨map_at hfn (T.mem_rows h),map_at hnm (T.mem_rows h)⟩
 plans:=fun f fn c h hb=>by
  have:=map_at hpl (T.mem_rows h)
  simp only[hb]at this
  exact this
 prims:=prims
end Go.Ev
namespace Go.Ev
variable [MT]
variable [Inhabited KA0]
open Go.ChangeShapes Go.WideShapes Go.ChangeAt Go.RowKit
def G0 (w:World):Gh:=⟨fun _=>none,fun _=>none,fun _=>none,fun _=>none,w.heap.size⟩
theorem inv0 (w:World) (hk:∀ p∈(default:KA0).ka,p.2 w.heap[p.1]?∧p.1<w.heap.size):Inv (G0 w) w ⟨.e,0⟩ where
 wf:=fun id o h=>by cases id<;>simp[T.get]at h
 frb:=fun b k h=>by simp[G0]at h
 bas:=Nat.le_refl _
 obj:=fun id b h=>by simp[G0]at h
 chn:=fun id n v h=>by simp[G0]at h
 ka:=fun p hp=>⟨(hk p hp).1,(hk p hp).2,rfl⟩
theorem Ext.below {w w':World} {h h':H} {G':Gh} (E:Ext (G0 w) w h G' w' h'):Below w.heap.size w w':=
 ⟨E.os,E.tape,E.output,E.size,fun k hk=>(E.still k hk rfl).1⟩
section
variable {H':Type} {enc:TypeId × Value→H'} {P:Program}
theorem trodAll_stays (hl:laidOutB P=true) {W W':World} {sp:Nat→Bool} (hb:Below W.heap.size W W'):∀ {ts:List TypeId} {vs:List Value} {ds:List (DataW H')} {ps:List MemPlace},
  (∀ t∈ts,P.readableRec t=true∧t<P.types.size)→(∀ p∈ps,p.block<W.heap.size)→(∀ p∈ps,sp p.block=true)→DataW.TrodAll enc P W 0 (fun _=>true) true ts vs ds ps→DataW.TrodAll enc P W' 0 sp true ts vs ds ps
 | [],[],[],ps,_,_,_,h=>h
 | t::ts,v::vs,d::ds,ps,hr,hlt,hs,h=>by
  obtain⟨p,q,h1,h2,rfl⟩:=h
  refine⟨p,q,?_,trodAll_stays hl hb (fun t ht=>hr t (List.mem_cons_of_mem _ ht)) (fun x hx=>hlt x (List.mem_append_right _ hx)) (fun x hx=>hs x (List.mem_append_right _ hx)) h2,rfl⟩
  exact WideElems.Trod_stays hl (hr t (List.mem_cons_self ..)).1 (hr t (List.mem_cons_self ..)).2 h1 (fun x hx=>hb.same (hlt x (List.mem_append_left _ hx))) (fun x hx=>hs x (List.mem_append_left _ hx))
 | [],[],_::_,_,_,_,_,h=>h.elim
 | [],_::_,_,_,_,_,_,h=>by cases h
 | _::_,[],_,_,_,_,_,h=>by cases h
 | _::_,_::_,[],_,_,_,_,h=>by cases h
theorem post_of_below {f:Func} {s:ChangeSpec} {apart fresh handsOn again:Bool} {W W':World} {args:Array Value} {ds gs:List (DataW H')} {before:List MemPlace} {rt:TypeId}
  (hl:laidOutB P=true) (hr:∀ t∈f.params.toList,P.readableRec t=true∧t<P.types.size) (hv:s.vars=[]) (hres:f.resultTypes = #[rt]) (hrt:P.underlying rt=some .bool)
  (hW:DataW.Whole enc P f.params.toList s.vars apart W args.toList ds gs before) (h1:(s.fn H' (ds++gs)).results=[.lit (.bool true)]) (h2:(s.fn H' (ds++gs)).args=ds) (h3:(s.fn H' (ds++gs)).vars=[])
  (hb:Below W.heap.size W W'):s.post enc P f apart fresh handsOn again W args (.bool true) W':=by
 have hlt:=hW.lt
 have hW0:=hW
 obtain⟨p,q,hA,hV,rfl,hz,hn⟩:=hW
 rw[hv]at hV
 have hq:gs=[]∧q=[]:=by
  cases gs with
  | nil=>exact⟨rfl,hV⟩
  | cons _ _=>exact hV.elim
 obtain⟨rfl,rfl⟩:=hq
 simp only[List.append_nil]at *
 have hR:∀ (b:Nat) (sp:Nat→Bool) (hd:Bool),DataW.TrodAll enc P W' b sp hd f.resultTypes.toList ((Value.bool true).resultList f.resultTypes.size) (s.fn H' ds).results []:=by
  intro b sp hd
  rw[h1,hres]
  exact trodAll_cons_mk (shut_bool hrt _) trodAll_mk0
 have hArg:∀ sp:Nat→Bool,(∀ x∈p,sp x.block=true)→DataW.TrodAll enc P W' 0 sp true f.params.toList args.toList ds p:=fun sp hs=>trodAll_stays hl hb hr hlt hs hA
 refine⟨ds,[],p,[],p,[],by simpa using hW0,by simpa using hR _ _ _,?_,?_,?_,fun _=>⟨?_,?_⟩⟩
 ·simp only[List.append_nil,h2]
  exact hArg _ (fun x hx=>by simpa using hlt x hx)
 ·simp only[List.append_nil,hv,h3]
  rfl
 ·exact World.keptBut_mono (fun x hx=>⟨hx,.inr (.inl hx)⟩) (hb.frame (·∈p))
 ·exact ok_one hres rfl (okWide_bool_mk hrt true)
 ·refine⟨_,[],p,⟨[]++p,[],trodAll_append (hArg (fun _=>true) (fun _ _=>rfl)) (hR _ _ _),by rw[hv];rfl,by simp,?_,?_⟩,fun x hx _=>hx⟩
  ·intro b off hp
   rw[hb.frozen (hlt _ hp)]
   exact hz b off hp
  ·exact hn
end
end Go.Ev
