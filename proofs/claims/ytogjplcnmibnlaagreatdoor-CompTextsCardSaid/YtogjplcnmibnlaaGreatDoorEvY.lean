/- Calls that hang on nothing, taken by what they come to. -/
import Derived.Test.YtogjplcnmibnlaaGreatDoorEvU
set_option autoImplicit false
set_option linter.unusedSectionVars false
set_option linter.unusedVariables false
set_option linter.unusedSimpArgs false
namespace Go.Ev
variable [MT]
variable [Inhabited KA0]
def resIs (b:Bool):Option (AV × H)→Bool
 | some (.bool c,_)=>b==c
 | _=>false
theorem resIs_some {b:Bool} {x:Option (AV × H)} (h:resIs b x=true):∃ h',x=some (.bool b,h'):=by
 cases x with
 | none=>simp[resIs]at h
 | some p=>
  obtain⟨v,h'⟩:=p
  cases v<;>simp[resIs]at h
  exact⟨h',by rw[h]⟩
def bH (E:Env) (f:Nat) (p:List AV→H→Option (AV × H)):Env:={ E with prim:=fun g=>bif Nat.beq g f then some p else E.prim g }
def cJ (P:Program) (f:Nat) (p:List AV→H→Option (AV × H)):Prop:=
 (∃ fn,P.funcs[f]?=some fn∧(fn.name == "runtime.NumGoroutine")=false∧fn.body.isNone=false) ∧
  ∀ args h v h',p args h=some (v,h')→∀ G w (A:Array Value),Inv G w h→VRs G w A.toList args→Calls P f A w (Post G w h v h')
theorem bD {P:Program} {E:Env} (hE:dW P E) {f:Nat} {p:List AV→H→Option (AV × H)} (hp:cJ P f p):dW P (bH E f p) where
 mixed:=hE.mixed
 ty:=hE.ty
 fns:=hE.fns
 plans:=hE.plans
 prims:=fun g q h=>by
  simp only[bH]at h
  cases hb:Nat.beq g f with
  | false=>rw[hb]at h;exact hE.prims g q h
  | true=>
   rw[hb]at h
   simp only[cond_true,Option.some.injEq]at h
   subst h
   obtain rfl:=Nat.eq_of_beq_eq_true hb
   exact hp
def primBool (b:Bool):List AV→H→Option (AV × H)
 | [],h=>some (.bool b,h)
 | _,_=>none
theorem primBool_ok {P:Program} {E:Env} (hE:dW P E) {f k:Nat} {b:Bool} (hev:resIs b (cG E k f [] ⟨.e,0⟩)=true):cJ P f (primBool b):=by
 obtain⟨h0,hh⟩:=resIs_some hev
 have S:=fn_sim hE k f [] ⟨.e,0⟩ _ _ hh
 refine⟨S.1,fun args h v h' hp G w A I hA => ?_⟩
 unfold primBool at hp
 split at hp
 ·simp only[Option.some.injEq,Prod.mk.injEq]at hp
  obtain⟨rfl,rfl⟩:=hp
  obtain rfl:A = #[]:=by
   have:=hA.1
   obtain⟨l⟩:=A
   simpa using this
  refine(S.2 (G0 w) w #[] (inv0 w fun p hp=>⟨(I.ka p hp).1,(I.ka p hp).2.1⟩) (.nil _ _)).mono ?_
  rintro e w' ⟨G',V,rfl,hV,hI,hX⟩
  cases hV
  have B:=hX.below
  exact⟨G,_,rfl,.bool b,grow_inv I B.os B.tape B.output B.size (fun j hj=>B.block j hj),grow_ext G _ B.os B.tape B.output B.size (fun j hj=>B.block j hj)⟩
 ·simp at hp
end Go.Ev
namespace Go.Ev
variable [MT]
namespace T
variable {α:Type}
theorem aA (t:T α) (k j:Nat) (v:α):(t.set k v).get j=if j=k then some v else t.get j:=by
 by_cases h:j=k
 ·subst h;rw[if_pos rfl,bO]
 ·rw[if_neg h,aD _ _ h]
end T
def Sub (c c':fO):Prop:=∀ f args h r,c f args h=some r→c' f args h=some r
section
variable {call call':fO} {ty:Nat→Option TyI} {n:Nat} {ops:Array Oper}
theorem evAct_mono (hc:Sub call call') {tm:Tm} {h:H} {o:Op} {r:AV × H} (he:bA call ty tm h o=some r):bA call' ty tm h o=some r:=by
 unfold bA at he ⊢
 split at he
 ·split at he
  ·exact hc _ _ _ _ he
  ·simp at he
 ·exact he
theorem evOne_mono (hc:Sub call call') {o:Oper} {tm:Tm} {h:H} {r:Tm × H} (he:aX call ty n ops o tm h=some r):aX call' ty n ops o tm h=some r:=by
 unfold aX at he ⊢
 split at he
 ·simp at he
 ·exact he
 ·rename_i hw
  cases ha:bA call ty tm h o.op with
  | none=>rw[ha]at he;simp at he
  | some p=>
   rw[ha]at he
   rw[evAct_mono hc ha]
   exact he
theorem evSeq_mono (hc:Sub call call'):∀ {l:List Oper} {tm:Tm} {h:H} {r:Tm × H},bC call ty n ops l tm h=some r→bC call' ty n ops l tm h=some r
 | [],tm,h,r,he=>he
 | o::l,tm,h,r,he=>by
  simp only[bC]at he ⊢
  cases ho:aX call ty n ops o tm h with
  | none=>rw[ho]at he;simp at he
  | some p=>
   rw[ho]at he
   rw[evOne_mono hc ho]
   exact evSeq_mono hc he
theorem evPlan_mono (hc:Sub call call'):∀ {l:List PE} {tm:Tm} {h:H} {r:Tm × H},bI call ty n ops l tm h=some r→bI call' ty n ops l tm h=some r
 | [],tm,h,r,he=>he
 | p::l,tm,h,r,he=>by
  simp only[bI]at he ⊢
  split at he
  ·simp at he
  ·rename_i o ho
   cases h1:aX call ty n ops o tm h with
   | none=>rw[h1]at he;simp at he
   | some q=>
    rw[h1]at he
    simp only at he
    rw[evOne_mono hc h1]
    simp only
    cases hr:recheck ty ops q.1 q.2 p.chk with
    | false=>rw[hr]at he;simp at he
    | true=>
     rw[hr]at he
     simp only[cond_true]at he ⊢
     exact evPlan_mono hc he
theorem evAlt_mono (hc:Sub call call'):∀ {al:Alt} {os:Array Oper} {tm:Tm} {h:H} {r:Tm × H},evAlt call ty n os al tm h=some r→evAlt call' ty n os al tm h=some r
 | .leaf pl,os,tm,h,r,he=>evPlan_mono hc he
 | .split a b x y,os,tm,h,r,he=>by
  simp only[evAlt]at he ⊢
  cases h1:evAlt call ty n (addEdge os b a) x tm h with
  | none=>rw[h1]at he;simp at he
  | some p=>
   cases h2:evAlt call ty n (addEdge os a b) y tm h with
   | none=>rw[h1,h2]at he;simp at he
   | some q=>
    rw[h1,h2]at he
    rw[evAlt_mono hc h1,evAlt_mono hc h2]
    exact he
theorem evCode_mono (hc:Sub call call') {E:Env} {f:Nat}:∀ (k k':Nat) (c:Code) {tm:Tm} {h:H} {r:Ex × Tm × H},k≤k'→aJ call E f n k c tm h=some r→aJ call' E f n k' c tm h=some r
 | 0,_,_,_,_,_,_,he=>by simp[aJ]at he
 | k+1,0,_,_,_,_,hk,_=>by omega
 | k+1,k'+1,c,tm,h,r,hk,he=>by
  have hk':k≤k':=by omega
  have ih:=fun c tm h r=>evCode_mono hc (E:=E) (f:=f) k k' c (tm:=tm) (h:=h) (r:=r) hk'
  cases c<;>simp only[aJ,reduceCtorEq]at he ⊢
  case skip=>exact he
  case label=>exact he
  case exit=>exact he
  case ret=>exact he
  case region id os dr=>
   cases dr with
   | false=>
    simp only at he ⊢
    cases hs:bC call E.ty n os os.toList tm h with
    | none=>rw[hs]at he;simp at he
    | some p=>rw[hs]at he;rw[evSeq_mono hc hs];exact he
   | true=>
    simp only at he ⊢
    cases hp:E.plan f id with
    | none=>
     rw[hp]at he
     simp only at he ⊢
     cases hal:E.alt f id with
     | none=>rw[hal]at he;simp at he
     | some al=>
      rw[hal]at he
      simp only at he ⊢
      cases hs:evAlt call E.ty n os al tm h with
      | none=>rw[hs]at he;simp at he
      | some p=>rw[hs]at he;rw[evAlt_mono hc hs];exact he
    | some pl=>
     rw[hp]at he
     simp only at he ⊢
     cases hs:bI call E.ty n os pl tm h with
     | none=>rw[hs]at he;simp at he
     | some p=>rw[hs]at he;rw[evPlan_mono hc hs];exact he
  case seq a b=>
   cases ha:aJ call E f n k a tm h with
   | none=>rw[ha]at he;simp at he
   | some p=>
    obtain⟨ex,tm1,h1⟩:=p
    rw[ha]at he
    rw[ih _ _ _ _ ha]
    cases ex with
    | normal=>exact ih _ _ _ _ he
    | exit j=>exact he
    | ret=>exact he
  case cond c a b=>
   split at he
   ·rename_i t hv
    cases t with
    | true=>exact ih _ _ _ _ he
    | false=>exact ih _ _ _ _ he
   ·simp at he
  case block id b=>
   cases ha:aJ call E f n k b tm h with
   | none=>rw[ha]at he;simp at he
   | some p=>rw[ha]at he;rw[ih _ _ _ _ ha];exact he
  case loop b=>
   cases ha:aJ call E f n k b tm h with
   | none=>rw[ha]at he;simp at he
   | some p=>
    obtain⟨ex,tm1,h1⟩:=p
    rw[ha]at he
    rw[ih _ _ _ _ ha]
    cases ex with
    | normal=>exact ih _ _ _ _ he
    | exit j=>exact he
    | ret=>exact he
end
theorem fT {E:Env}:∀ (k k':Nat),k≤k'→Sub (cG E k) (cG E k')
 | 0,_,_,f,args,h,r,he=>by simp[cG]at he
 | k+1,0,hk,_,_,_,_,_=>by omega
 | k+1,k'+1,hk,f,args,h,r,he=>by
  have hk':k≤k':=by omega
  have ih:=fT (E:=E) k k' hk'
  simp only[cG]at he ⊢
  split at he
  ·exact he
  ·split at he
   ·simp at he
   ·rename_i fn hfn
    split at he
    ·simp at he
    ·rename_i c hb
     cases hl:Nat.ble args.length fn.ntmps with
     | false=>rw[hl]at he;simp at he
     | true=>
      rw[hl]at he
      simp only[cond_true]at he ⊢
      cases hcd:aJ (cG E k) E f fn.ntmps k c (setArgs 0 args .e) h with
      | none=>rw[hcd]at he;simp at he
      | some p=>
       rw[hcd]at he
       rw[evCode_mono ih k k' c hk' hcd]
       exact he
def Run (E:Env) (f:Nat) (args:List AV) (h:H) (r:AV × H):Prop:=∃ K,∀ k,K≤k→cG E k f args h=some r
theorem Run.of {E:Env} {f k:Nat} {args:List AV} {h:H} {r:AV × H} (he:cG E k f args h=some r):Run E f args h r:=⟨k,fun k' hk=>fT k k' hk f args h r he⟩
theorem blt_dec (a b:Nat):Nat.blt a b=decide (a<b):=by
 by_cases h:a<b
 ·rw[cR.2 h];simp[h]
 ·rw[blt_no h];simp[h]
theorem ble_dec (a b:Nat):Nat.ble a b=decide (a≤b):=by
 by_cases h:a≤b
 ·rw[Nat.ble_eq_true_of_le h];simp[h]
 ·cases hb:Nat.ble a b with
  | true=>exact absurd (Nat.le_of_ble_eq_true hb) h
  | false=>simp[h]
theorem fM (a b:Nat):Nat.beq a b=decide (a=b):=by
 by_cases h:a=b
 ·rw[bV.2 h];simp[h]
 ·rw[beq_no h];simp[h]
def loops:Code→List Code
 | .seq a b=>loops a++loops b
 | .cond _ a b=>loops a++loops b
 | .block _ b=>loops b
 | .loop b=>b::loops b
 | _=>[]
def aK (f:Func) (i:Nat):Code:=
 match f.body with
 | none => .skip
 | some c=>((loops c)[i]?).getD .skip
def sub:List Nat→Code→Code
 | [],c=>c
 | 0::p,.seq a _=>sub p a
 | _::p,.seq _ b=>sub p b
 | 0::p,.cond _ a _=>sub p a
 | _::p,.cond _ _ b=>sub p b
 | _::p,.block _ b=>sub p b
 | _::p,.loop b=>sub p b
 | _,c=>c
def aC (f:Func) (p:List Nat):Code:=
 match f.body with
 | none => .skip
 | some c=>sub p c
theorem run_seq {call:fO} {E:Env} {f n k:Nat} {a b:Code} {tm tm1:Tm} {h h1:H} {r:Option (Ex × Tm × H)} (ha:aJ call E f n k a tm h=some (.normal,tm1,h1)) (hb:aJ call E f n k b tm1 h1=r) :
  aJ call E f n (k+1) (.seq a b) tm h=r:=by
 simp only[aJ,ha,hb]
theorem run_exit {call:fO} {E:Env} {f n k id:Nat} {b:Code} {tm tm1:Tm} {h h1:H} (hb:aJ call E f n k b tm h=some (.exit id,tm1,h1)):aJ call E f n (k+1) (.block id b) tm h=some (.normal,tm1,h1):=by
 simp only[aJ,hb,fM,decide_true,cond_true]
end Go.Ev
namespace Go.Ev
variable [Inhabited KA0] [MT]
mutual
def AV.pure:AV→Bool
 | .ptr (some _)=>false
 | .vp cs=>AV.fF cs
 | .sl _ els=>AV.fF els
 | .map (some _)=>false
 | .fn _ a b=>AV.fF a&&AV.fF b
 | .iface _ v=>v.pure
 | .agg cs=>AV.fF cs
 | .tup vs=>AV.fF vs
 | .rs _ _ _=>false
 | .rp _ _ _=>false
 | .rv _ _ _=>false
 | _=>true
def AV.fF:List AV→Bool
 | []=>true
 | a::l=>a.pure&&AV.fF l
end
mutual
def AV.forget:AV→AV
 | .vp cs => .vp (AV.dJ cs)
 | .sl o els => .sl (match o with | .full => .full|_ => .no) (AV.dJ els)
 | .fn f a b => .fn f (AV.dJ a) (AV.dJ b)
 | .iface t v => .iface t v.forget
 | .agg cs => .agg (AV.dJ cs)
 | .tup vs => .tup (AV.dJ vs)
 | v=>v
def AV.dJ:List AV→List AV
 | []=>[]
 | a::l=>a.forget::AV.dJ l
end
theorem eY:∀ l:List AV,AV.dJ l=l.map AV.forget
 | []=>rfl
 | a::l=>by rw[AV.dJ,eY l];rfl
theorem pures_all:∀ {l:List AV},AV.fF l=true→∀ x∈l,x.pure=true
 | [],_,x,hx=>by simp at hx
 | a::l,h,x,hx=>by
  simp only[AV.fF,Bool.and_eq_true]at h
  rcases List.mem_cons.1 hx with rfl|hx
  ·exact h.1
  ·exact pures_all h.2 x hx
theorem forget_cells (x:AV):x.forget.cells=x.cells.map AV.forget:=by
 cases x<;>simp[AV.forget,AV.cells,eY]
theorem pure_cells {x:AV} (h:x.pure=true):∀ y∈x.cells,y.pure=true:=by
 cases x<;>simp only[AV.cells,List.mem_singleton,forall_eq]<;>try exact h
 rename_i cs
 simp only[AV.pure]at h
 exact pures_all h
theorem get_forgets {l:List AV} {i:Nat} {x:AV} (h:(AV.dJ l)[i]?=some x):∃ y,l[i]?=some y∧x=y.forget:=by
 rw[eY,List.getElem?_map]at h
 cases hl:l[i]? with
 | none=>rw[hl]at h;simp at h
 | some y=>rw[hl]at h;simp at h;exact⟨y,rfl,h.symm⟩
theorem forgets_length (l:List AV):(AV.dJ l).length=l.length:=by rw[eY];simp
theorem VR.forget {G G':Gh} {w w':World} (hS:∀ b o v,Stb G w b o v→Stb G' w' b o v) {V:Value} {x:AV} (r:VR G w V x):x.pure=true→VR G' w' V x.forget:=by
 induction r with
 | bool b=>intro _;exact .bool b
 | int k n=>intro _;exact .int k n
 | str s=>intro _;exact .str s
 | ptr0=>intro _;exact .ptr0
 | ptr id b off h=>intro h;simp[AV.pure]at h
 | rs id len b cap own hc h=>intro h;simp[AV.pure]at h
 | rp id len off b h=>intro h;simp[AV.pure]at h
 | rv id len k b cap hk hc h=>intro h;simp[AV.pure]at h
 | vp b off cs f h1 h2 ih=>
  intro hp
  simp only[AV.pure]at hp
  refine .vp b off _ f (fun j hj=>hS _ _ _ (h1 j (by rwa [forgets_length]at hj))) (fun j y hy => ?_)
  obtain⟨z,hz,rfl⟩:=get_forgets hy
  exact ih j z hz (pures_all hp z (List.mem_of_getElem? hz))
 | sl0 A cap o hn h=>
  intro _
  refine .sl0 A cap _ hn ?_
  cases o<;>simp only[OwnR]
  exact h
 | sl b off len cap s o els f hl hc hs h1 h2 ho ih=>
  intro hp
  simp only[AV.pure]at hp
  refine .sl b off len cap s _ _ f (by rw[forgets_length];exact hl) hc (fun y hy => ?_) (fun i j hi hj=>hS _ _ _ (h1 i j hi hj)) (fun i j y z hy hz => ?_) ?_
  ·rw[eY]at hy
   obtain⟨z,hz,rfl⟩:=List.mem_map.1 hy
   rw[forget_cells,List.length_map]
   exact hs z hz
  ·obtain⟨y',hy',rfl⟩:=get_forgets hy
   rw[forget_cells,List.getElem?_map]at hz
   cases hc':y'.cells[j]? with
   | none=>rw[hc']at hz;simp at hz
   | some z'=>
    rw[hc']at hz
    simp only[Option.map_some,Option.some.injEq]at hz
    subst hz
    exact ih i j y' z' hy' hc' (pure_cells (pures_all hp y' (List.mem_of_getElem? hy')) z' (List.mem_of_getElem? hc'))
  ·cases o<;>simp only[OwnR]at ho ⊢
   exact ho
 | map0=>intro _;exact .map0
 | map id b h=>intro h;simp[AV.pure]at h
 | fn f a b c d ha hb h1 h2 ih1 ih2=>
  intro hp
  simp only[AV.pure,Bool.and_eq_true]at hp
  refine .fn f a b _ _ (by rw[forgets_length];exact ha) (by rw[forgets_length];exact hb) (fun i v x hv hx => ?_) (fun i v x hv hx => ?_)
  ·obtain⟨z,hz,rfl⟩:=get_forgets hx
   exact ih1 i v z hv hz (pures_all hp.1 z (List.mem_of_getElem? hz))
  ·obtain⟨z,hz,rfl⟩:=get_forgets hx
   exact ih2 i v z hv hz (pures_all hp.2 z (List.mem_of_getElem? hz))
 | nilFn=>intro _;exact .nilFn
 | iface t v x h ih=>intro hp;exact .iface t v _ (ih hp)
 | nilIface=>intro _;exact .nilIface
 | agg a c ha h1 ih=>
  intro hp
  simp only[AV.pure]at hp
  refine .agg a _ (by rw[forgets_length];exact ha) (fun i v x hv hx => ?_)
  obtain⟨z,hz,rfl⟩:=get_forgets hx
  exact ih i v z hv hz (pures_all hp z (List.mem_of_getElem? hz))
 | tup a c ha h1 ih=>
  intro hp
  simp only[AV.pure]at hp
  refine .tup a _ (by rw[forgets_length];exact ha) (fun i v x hv hx => ?_)
  obtain⟨z,hz,rfl⟩:=get_forgets hx
  exact ih i v z hv hz (pures_all hp z (List.mem_of_getElem? hz))
def Gp (G:Gh):Gh:=⟨fun _=>none,fun _=>none,G.fr,fun _=>none,G.base⟩
theorem invp {G:Gh} {w:World} {h:H} (I:Inv G w h):Inv (Gp G) w ⟨.e,0⟩ where
 wf:=fun id o h=>by cases id<;>simp[T.get]at h
 frb:=I.frb
 bas:=I.bas
 obj:=fun id b h=>by simp[Gp]at h
 chn:=fun id n v h=>by simp[Gp]at h
 ka:=I.ka
def aW (p:List AV→Option AV):List AV→H→Option (AV × H):=fun args h=>
 bif AV.fF args then(match p (AV.dJ args)with|none=>none|some v=>some (v,h))else none
theorem primPure_ok {P:Program} {E:Env} (hE:dW P E) {f:Nat} {fn:Func} (hfn:P.funcs[f]?=some fn) (hnm:(fn.name == "runtime.NumGoroutine")=false) (hb:fn.body.isNone=false) {p:List AV→Option AV}
  (hp:∀ args v,p args=some v→∃ k v' h1,cG E k f args ⟨.e,0⟩=some (v',h1)∧v'.pure=true∧v'.forget=v):cJ P f (aW p):=by
 refine⟨⟨fn,hfn,hnm,hb⟩,fun args h v h' he G w A I hA => ?_⟩
 unfold aW at he
 cases hpu:AV.fF args with
 | false=>rw[hpu]at he;simp at he
 | true=>
  rw[hpu]at he
  simp only[cond_true]at he
  cases hv:p (AV.dJ args)with
  | none=>rw[hv]at he;simp at he
  | some v0=>
   rw[hv]at he
   simp only[Option.some.injEq,Prod.mk.injEq]at he
   obtain⟨rfl,rfl⟩:=he
   obtain⟨k,v',h1,hev,hvp,rfl⟩:=hp _ _ hv
   have hA':VRs (Gp G) w A.toList (AV.dJ args):=by
    refine⟨by rw[forgets_length];exact hA.1,fun i u x hu hx => ?_⟩
    obtain⟨z,hz,rfl⟩:=get_forgets hx
    exact VR.forget (G:=G) (G':=Gp G) (fun b o v s=>show Stb (Gp G) w b o v from s) (hA.2 i u z hu hz) (pures_all hpu z (List.mem_of_getElem? hz))
   refine((fn_sim hE k f _ _ _ _ hev).2 (Gp G) w A (invp I) hA').mono ?_
   rintro e w' ⟨G',V,rfl,hV,hI,hX⟩
   have hh:∀ j,j<w.heap.size→w'.heap[j]?=w.heap[j]?:=fun j hj=>(hX.own j hj rfl).1
   refine⟨G,V,rfl,hV.forget (fun b o v s=>⟨s.1,?_⟩) hvp,grow_inv I hX.os hX.tape hX.output hX.size hh,grow_ext G _ hX.os hX.tape hX.output hX.size hh⟩
   by_cases hbs:b<w.heap.size
   ·have:=(hX.own b hbs rfl).2.1
    have s2:=s.2
    rw[this]at s2
    exact s2
   ·cases hf:G.fr b with
    | none=>exact .inl rfl
    | some k'=>exact absurd (I.frb b k' hf).2 hbs
theorem ikBeq_refl (k:IntKind):bK k k=true:=by cases k<;>rfl
theorem nat_beq_refl (n:Nat):Nat.beq n n=true:=bV.2 rfl
theorem natsBeq_refl:∀ l:List Nat,aB l l=true
 | []=>rfl
 | a::l=>by simp[aB,natsBeq_refl l]
mutual
theorem AV.beq_refl:∀ x:AV,AV.beq x x=true
 | .bool b=>by simp[AV.beq]
 | .int k n=>by simp[AV.beq,ikBeq_refl,bU]
 | .str s=>by simp[AV.beq,natsBeq_refl]
 | .ptr none=>by simp[AV.beq,optPairBeq]
 | .ptr (some (a,b))=>by simp[AV.beq,optPairBeq]
 | .vp cs=>by simp[AV.beq,AV.beqs_refl cs]
 | .sl o els=>by cases o<;>simp[AV.beq,AV.beqs_refl els,Own.beq]
 | .map none=>by simp[AV.beq,optNatBeq]
 | .map (some a)=>by simp[AV.beq,optNatBeq]
 | .fn f a b=>by simp[AV.beq,AV.beqs_refl a,AV.beqs_refl b]
 | .nilFn=>by simp[AV.beq]
 | .iface t v=>by simp[AV.beq,AV.beq_refl v]
 | .nilIface=>by simp[AV.beq]
 | .agg cs=>by simp[AV.beq,AV.beqs_refl cs]
 | .tup vs=>by simp[AV.beq,AV.beqs_refl vs]
 | .rs a b o=>by cases o<;>simp[AV.beq]
 | .rp a b c=>by simp[AV.beq]
 | .rv a b c=>by simp[AV.beq]
theorem AV.beqs_refl:∀ l:List AV,AV.beqs l l=true
 | []=>by simp[AV.beqs]
 | a::l=>by simp[AV.beqs,AV.beq_refl a,AV.beqs_refl l]
end
end Go.Ev
