/- Statements and calls of the abstract machine are the model's; regions that draw their order are EvH's. -/
import Derived.Test.YtogjplcnmibnlaaGreatDoorEvF
import Derived.Laws.Tables
import Derived.Laws.Slices
import Derived.Laws.Strings2
import Derived.Lib.Strings
import Derived.Lib.ConvBytes
import Derived.Laws.BytesString
set_option autoImplicit false
set_option linter.unusedSectionVars false
set_option linter.unusedVariables false
set_option linter.unusedSimpArgs false
namespace Go.Ev
variable [Inhabited KA0] [MT]
def Post (G:Gh) (w:World) (h:H) (v:AV) (h':H):Ending→World→Prop:=
 fun e w'=>∃ G' V,e = .returned V∧VR G' w' V v∧Inv G' w' h'∧Ext G w h G' w' h'
def CallOk (P:Program) (call:fO):Prop:=
 ∀ f args h v h',call f args h=some (v,h') →
  (∃ fn,P.funcs[f]?=some fn∧(fn.name == "runtime.NumGoroutine")=false∧fn.body.isNone=false) ∧
  ∀ G w (A:Array Value),Inv G w h→VRs G w A.toList args→Calls P f A w (Post G w h v h')
structure TmR (G:Gh) (w:World) (n:Nat) (tm:Tm) (a:Act):Prop where
 size:a.tmps.size=n
 val:∀ t v,tm.get t=some v→VR G w (a.tmps.getD t undef) v
def ActOk (P:Program) (ty:Nat→Option TyI) (call:fO):Prop:=
 ∀ G w h tm (a:Act) (o:Oper) v h',Inv G w h→(∀ x∈o.op.operands,∀ u,val tm x=some u→VR G w (a.eval x) u)→bA call ty tm h o.op=some (v,h') →
  ∀ (K:Act→World→Prop) (Q:Exit→Act→World→Prop),(∀ G' w' V,Inv G' w' h'→Ext G w h G' w' h'→VR G' w' V v→K (a.put o.dst V) w')→o.wp P a w K Q
section
variable {P:Program} {G:Gh} {w:World} {h:H} {n:Nat} {tm:Tm} {a:Act}
theorem val_VR (hv:∀ t v,tm.get t=some v→VR G w (a.tmps.getD t undef) v) {x:Operand} {u:AV} (hx:val tm x=some u):VR G w (a.eval x) u:=by
 cases x with
 | tmp t=>exact hv t u hx
 | const v=>exact ofVal_VR G w hx
 | func f=>
  simp only[val,Option.some.injEq]at hx
  subst hx
  exact .fn f #[] #[] [] [] rfl rfl (fun i v x hv=>by simp at hv) (fun i v x hv=>by simp at hv)
 | global g=>simp[val]at hx
theorem TmR.mono {G':Gh} {w':World} {h':H} (E:Ext G w h G' w' h') (T:TmR G w n tm a):TmR G' w' n tm a:=⟨T.size,fun t v ht=>(T.val t v ht).mono E⟩
theorem size_put (a:Act) (d:Option Tmp) (V:Value):(a.put d V).tmps.size=a.tmps.size:=by cases d<;>simp[Act.put]
theorem TmR.put (T:TmR G w n tm a) {dst:Option Nat} {V:Value} {v:AV} (hv:VR G w V v) {tm':Tm} (hp:aZ n dst v tm=some tm'):TmR G w n tm' (a.put dst V):=by
 refine⟨by rw[size_put];exact T.size,fun t u ht => ?_⟩
 cases dst with
 | none=>simp only[aZ,Option.some.injEq]at hp;subst hp;exact T.val t u ht
 | some d=>
  simp only[aZ]at hp
  cases hd:Nat.blt d n with
  | false=>rw[hd]at hp;simp at hp
  | true=>
   rw[hd]at hp
   simp only[cond_true,Option.some.injEq]at hp
   subst hp
   have hdn:d<a.tmps.size:=by rw[T.size];exact cR.1 hd
   by_cases e:t=d
   ·subst e
    rw[Go.Ev.T.bO]at ht
    simp only[Option.some.injEq]at ht
    subst ht
    simpa[Act.put,hdn]using hv
   ·rw[Go.Ev.T.aD _ _ e]at ht
    have:=T.val t u ht
    simp only[Act.put]
    have e2:(a.tmps.setIfInBounds d V).getD t undef=a.tmps.getD t undef:=by
     simp[Array.getD_eq_getD_getElem?,Array.getElem?_setIfInBounds_ne (fun h=>e h.symm)]
    rw[e2]
    exact this
theorem undef_VR (G:Gh) (w:World):VR G w undef (.tup []) := .tup #[] [] rfl (fun i v x hv=>by simp at hv)
theorem wanted_eq {ops:Array Oper} {o:Oper} (hg:∀ j want,o.guard=some (j,want)→∀ d,(ops[j]?).bind (·.dst)=some d→∀ u,tm.get d=some u→VR G w (a.tmps.getD d undef) u)
  {b:Bool} (hw:aG ops tm o=some b):Region.wanted o (yielded ops a.tmps)=b:=by
 unfold aG at hw
 unfold Region.wanted yielded
 cases hq:o.guard with
 | none=>rw[hq]at hw;simpa using hw
 | some p=>
  obtain⟨j,want⟩:=p
  rw[hq]at hw
  simp only at hw ⊢
  cases hd:(ops[j]?).bind (·.dst)with
  | none=>
   rw[hd]at hw
   simp only[Option.some.injEq]at hw
   subst hw
   simp
  | some d=>
   rw[hd]at hw
   simp only at hw
   split at hw
   ·rename_i c hc
    have:=hg j want hq d hd _ hc
    simp only[Option.some.injEq]at hw
    have e:a.tmps[d]?=some (.bool c):=by
     generalize hx:a.tmps.getD d undef=x at this
     cases this
     rw[Array.getD_eq_getD_getElem?]at hx
     cases hy:a.tmps[d]? with
     | none=>rw[hy]at hx;simp[undef]at hx
     | some y=>rw[hy]at hx;simp at hx;rw[hx]
    simp[e,←hw]
   ·rename_i l hc
    have:=hg j want hq d hd _ hc
    simp only[Option.some.injEq]at hw
    subst hw
    simp only[Option.bind_some]
    split
    ·rename_i b' he
     rw[Array.getD_eq_getD_getElem?,he]at this
     simp only[Option.getD_some]at this
     cases this
    ·simp
   ·simp at hw
theorem one_sim {ty:Nat→Option TyI} {call:fO} (hA:ActOk P ty call) {ops:Array Oper} {i:Nat} {o:Oper} (hi:ops[i]?=some o) (I:Inv G w h) (T:TmR G w n tm a)
  {tm':Tm} {h':H} (he:aX call ty n ops o tm h=some (tm',h')) (Q:Exit→Act→World→Prop) (K:Act→World→Prop)
  (hK:∀ G' w' a',Inv G' w' h'→Ext G w h G' w' h'→TmR G' w' n tm' a'→a'.defers=a.defers→K a' w'):wpOp P ops Q i K a w:=by
 unfold aX at he
 unfold wpOp
 rw[hi]
 simp only
 cases hw:aG ops tm o with
 | none=>rw[hw]at he;simp at he
 | some b=>
  rw[hw]at he
  have hwt:=wanted_eq (a:=a) (fun j want _ d _ u hu=>T.val d u hu) hw
  rw[hwt]
  cases b with
  | false=>
   simp only at he
   cases hp:aZ n o.dst (.tup []) tm with
   | none=>rw[hp]at he;simp at he
   | some t1=>
    rw[hp]at he
    simp only[Option.some.injEq,Prod.mk.injEq]at he
    obtain⟨rfl,rfl⟩:=he
    simp only[Bool.false_eq_true,if_false]
    exact hK G w _ I (Ext.refl G w h) (T.put (undef_VR G w) hp) (by cases o.dst<;>rfl)
  | true=>
   simp only at he
   cases hv:bA call ty tm h o.op with
   | none=>rw[hv]at he;simp at he
   | some p=>
    obtain⟨v,h1⟩:=p
    rw[hv]at he
    simp only at he
    cases hp:aZ n o.dst v tm with
    | none=>rw[hp]at he;simp at he
    | some t1=>
     rw[hp]at he
     simp only[Option.some.injEq,Prod.mk.injEq]at he
     obtain⟨rfl,rfl⟩:=he
     simp only[if_true]
     refine .inl (hA G w h tm a o v h1 I (fun x _ u hu=>val_VR T.val hu) hv K Q fun G' w' V I' E hV => ?_)
     exact hK G' w' _ I' E ((T.mono E).put hV hp) (by cases o.dst<;>rfl)
theorem seq_sim {ty:Nat→Option TyI} {call:fO} (hA:ActOk P ty call) {ops:Array Oper}:∀ (l:List Oper) (k:Nat),(∀ j,l[j]?=ops[k+j]?)→∀ {G:Gh} {w:World} {h:H} {tm:Tm} {a:Act},Inv G w h→TmR G w n tm a →
  ∀ {tm':Tm} {h':H},bC call ty n ops l tm h=some (tm',h')→∀ (Q:Exit→Act→World→Prop),
  (∀ G' w' a',Inv G' w' h'→Ext G w h G' w' h'→TmR G' w' n tm' a'→a'.defers=a.defers→Q .normal a' w')→wpOps P ops Q (List.range' k l.length) a w:=by
 intro l
 induction l with
 | nil=>
  intro k _ G w h tm a I T tm' h' he Q hQ
  simp only[bC,Option.some.injEq,Prod.mk.injEq]at he
  obtain⟨rfl,rfl⟩:=he
  exact hQ G w a I (Ext.refl G w h) T rfl
 | cons o l ih=>
  intro k hl G w h tm a I T tm' h' he Q hQ
  simp only[bC]at he
  cases h1:aX call ty n ops o tm h with
  | none=>rw[h1]at he;simp at he
  | some p=>
   obtain⟨t1,g1⟩:=p
   rw[h1]at he
   simp only at he
   rw[List.length_cons,List.range'_succ,wpOps_cons]
   refine one_sim hA (by have:=hl 0;simpa using this.symm) I T h1 Q _ fun G' w' a' I' E T' hd => ?_
   refine ih (k+1) (fun j=>by have:=hl (j+1);simp only[List.getElem?_cons_succ]at this;rw[this];congr 1;omega) I' T' he Q fun G2 w2 a2 I2 E2 T2 hd2 => ?_
   exact hQ G2 w2 a2 I2 (E.trans E2) T2 (hd2.trans hd)
end
end Go.Ev
namespace Go.Ev
variable [Inhabited KA0] [MT]
theorem flat_get {α β:Type} (f:α→List β) (s:Nat):∀ (l:List α),(∀ x∈l,(f x).length=s)→∀ (i j:Nat) x y,l[i]?=some x→(f x)[j]?=some y→(l.flatMap f)[i*s+j]?=some y
 | [],_,i,j,x,y,hx,_=>by simp at hx
 | a::l,hs,0,j,x,y,hx,hy=>by
  simp at hx
  subst hx
  rw[List.flatMap_cons,Nat.zero_mul,Nat.zero_add,List.getElem?_append_left (aI hy)]
  exact hy
 | a::l,hs,i+1,j,x,y,hx,hy=>by
  simp at hx
  have ha:=hs a (by simp)
  rw[List.flatMap_cons,List.getElem?_append_right (by rw[ha,Nat.add_mul];omega),ha]
  have:=flat_get f s l (fun z hz=>hs z (by simp[hz])) i j x y hx hy
  rw[←this]
  congr 1
  rw[Nat.add_mul];omega
theorem flat_length {α β:Type} (f:α→List β) (s:Nat):∀ (l:List α),(∀ x∈l,(f x).length=s)→(l.flatMap f).length=l.length*s
 | [],_=>by simp
 | a::l,hs=>by
  rw[List.flatMap_cons,List.length_append,hs a (by simp),flat_length f s l fun x hx=>hs x (by simp[hx]),List.length_cons,Nat.add_mul]
  omega
theorem fold_splice:∀ (l:List Value) (cs:Array Value) (off j0:Nat),off+j0+l.length≤cs.size →
  ((l.zipIdx j0).foldl (fun cs (x:Value × Nat)=>cs.setIfInBounds (off+x.2) x.1) cs).toList=cs.toList.take (off+j0)++l++cs.toList.drop (off+j0+l.length)
 | [],cs,off,j0,h=>by simp
 | v::l,cs,off,j0,h=>by
  simp only[List.zipIdx_cons,List.foldl_cons]
  rw[fold_splice l _ off (j0+1) (by simp at h ⊢;omega)]
  have hlt:off+j0<cs.toList.length:=by simp at h ⊢;omega
  have hset:(cs.setIfInBounds (off+j0) v).toList=cs.toList.take (off+j0)++v::cs.toList.drop (off+j0+1):=by
   rw[Array.toList_setIfInBounds,List.set_eq_take_append_cons_drop,if_pos hlt]
  rw[hset]
  have hA:(cs.toList.take (off+j0)).length=off+j0:=by simp at hlt ⊢;omega
  generalize cs.toList.take (off+j0)=A at *
  have e1:(A++v::cs.toList.drop (off+j0+1)).take (off+(j0+1))=A++[v]:=by
   rw[show off+(j0+1)=A.length+1 by omega,List.take_append,List.take_of_length_le (Nat.le_succ _)]
   simp
  have e2:(A++v::cs.toList.drop (off+j0+1)).drop (off+(j0+1)+l.length)=cs.toList.drop (off+j0+(l.length+1)):=by
   rw[show off+(j0+1)+l.length=A.length+(l.length+1) by omega,List.drop_append,List.drop_of_length_le (Nat.le_add_right _ _)]
   rw[Nat.add_sub_cancel_left,List.drop_succ_cons,List.drop_drop,List.nil_append]
   congr 1
   omega
  rw[e1,e2,List.length_cons]
  simp
section
variable {P:Program} {G:Gh} {w:World} {h:H}
theorem VRs.flat:∀ {a:List Value} {c:List AV},VRs G w a c→VRs G w (a.flatMap fun v=>v.cells.toList) (c.flatMap AV.cells)
 | [],c,r=>by
  cases c with
  | nil=>exact VRs.nil G w
  | cons x c=>have:=r.1;simp at this
 | v::a,c,r=>by
  cases c with
  | nil=>have:=r.1;simp at this
  | cons x c=>
   obtain⟨v',b,e,h1,h2⟩:=r.uncons
   simp only[List.cons.injEq]at e
   obtain⟨rfl,rfl⟩:=e
   rw[List.flatMap_cons,List.flatMap_cons]
   exact h1.cells.append (VRs.flat h2)
theorem allVals_VRs {tm:Tm} {ρ:Operand→Value}:∀ {l:List Operand} {vs:List AV},aH tm l=some vs→(∀ x∈l,∀ u,val tm x=some u→VR G w (ρ x) u)→VRs G w (l.map ρ) vs
 | [],vs,h,_=>by simp[aH]at h;subst h;exact VRs.nil G w
 | x::l,vs,h,hv=>by
  simp only[aH]at h
  cases hx:val tm x with
  | none=>rw[hx]at h;simp at h
  | some v=>
   rw[hx]at h
   simp only at h
   cases hl:aH tm l with
   | none=>rw[hl]at h;simp at h
   | some m=>
    rw[hl]at h
    simp only[Option.some.injEq]at h
    subst h
    exact .cons (hv x (by simp) v hx) (allVals_VRs hl fun y hy=>hv y (by simp[hy]))
theorem VR.sl_new {cells:List Value} {e:Nat} {els:List AV} {s:Nat} (hs:∀ x∈els,x.cells.length=s) (hc:VRs G w cells (els.flatMap AV.cells)) (I:Inv G w h) :
  VR G (w.alloc (.cells cells.toArray e)) (.slice (some ⟨w.heap.size,0,none⟩) els.length els.length) (.sl .full els):=by
 have hf:G.fr w.heap.size=none:=I.fresh.2.2
 have E:=alloc_ext I (.cells cells.toArray e)
 have hlen:cells.length=els.length*s:=by rw[hc.1];exact flat_length _ s els hs
 refine .sl w.heap.size 0 els.length els.length s .full els (fun i j=>cells.getD (i*s+j) undef) rfl (Nat.le_refl _) hs (fun i j hi hj=>⟨?_,.inl hf⟩) (fun i j x y hx hy => ?_) rfl
 ·have hlt:i*s+j<cells.length:=by
   rw[hlen]
   have:(i+1)*s≤els.length*s:=Nat.mul_le_mul_right s hi
   rw[Nat.add_mul]at this
   omega
  rw[cell_at (heap_alloc_new w _)]
  simp[List.getD_eq_getElem?_getD,hlt]
 ·have hg:=flat_get AV.cells s els hs i j x y hx hy
  have hlt:=aI hg
  rw[←hc.1]at hlt
  have hu:cells[i*s+j]?=some cells[i*s+j]:=List.getElem?_eq_getElem hlt
  have:=hc.2 _ _ _ hu hg
  rw[List.getD_eq_getElem?_getD,hu]
  exact this.mono E
theorem fill_dense (size:Nat):∀ (Vs:List Value) (k:Nat) (Z:Array Value),(∀ V∈Vs,V.cells.size=size)→(k+Vs.length)*size=Z.size →
  ∃ C,Instr.fill (fun i=>some (i*size,size)) Z ((List.range' k Vs.length).zip Vs)=some C∧C.toList=Z.toList.take (k*size)++Vs.flatMap (fun v=>v.cells.toList)
 | [],k,Z,_,h=>⟨Z,by simp[Instr.fill],by
   simp at h ⊢
   rw[List.take_of_length_le (by simp;omega)]⟩
 | V::Vs,k,Z,hV,h=>by
  have h1:=hV V (by simp)
  simp only[List.length_cons]at h
  have hk:k*size+size≤Z.size:=by
   rw[←h]
   have:(k+1)*size≤(k+(Vs.length+1))*size:=Nat.mul_le_mul_right _ (by omega)
   rw[Nat.add_mul]at this
   omega
  rw[List.length_cons,List.range'_succ,List.zip_cons_cons]
  simp only[Instr.fill,h1,ne_eq,not_true_eq_false,decide_false,Bool.false_or,gt_iff_lt]
  rw[if_neg (by simpa using hk)]
  have hsp:=fold_splice V.cells.toList Z (k*size) 0 (by simp;omega)
  simp only[Nat.add_zero]at hsp
  have hzl:(V.cells.zipIdx.foldl (fun cs (x:Value × Nat)=>cs.setIfInBounds (k*size+x.2) x.1) Z)=(V.cells.toList.zipIdx.foldl (fun cs (x:Value × Nat)=>cs.setIfInBounds (k*size+x.2) x.1) Z):=by
   rw[←Array.foldl_toList,Array.toList_zipIdx]
  obtain⟨C,hC1,hC2⟩:=fill_dense size Vs (k+1) (V.cells.zipIdx.foldl (fun cs (x:Value × Nat)=>cs.setIfInBounds (k*size+x.2) x.1) Z) (fun U hU=>hV U (by simp[hU])) (by
   rw[hzl]
   have:=congrArg List.length hsp
   simp at this
   have e3:k+1+Vs.length=k+(Vs.length+1):=by omega
   rw[e3,h]
   omega)
  refine⟨C,hC1,?_⟩
  rw[hC2,hzl,hsp]
  have e2:(Z.toList.take (k*size)++V.cells.toList).length=(k+1)*size:=by simp[h1];rw[Nat.add_mul];omega
  rw[List.take_append_of_le_length (by omega),←e2,List.take_length]
  simp
end
end Go.Ev
namespace Go.Ev
variable [Inhabited KA0] [MT]
theorem fillAt_toList {G:Gh} {w:World} {Z:Array Value} {cs:List AV} (r:VRs G w Z.toList cs) {V:Value} {v:AV} (hv:VR G w V v) {off:Nat} (hf:off+v.cells.length≤cs.length) :
  VRs G w (V.cells.zipIdx.foldl (fun cs (x:Value × Nat)=>cs.setIfInBounds (off+x.2) x.1) Z).toList (aY cs off v.cells):=by
 have hzl:(V.cells.zipIdx.foldl (fun cs (x:Value × Nat)=>cs.setIfInBounds (off+x.2) x.1) Z)=(V.cells.toList.zipIdx.foldl (fun cs (x:Value × Nat)=>cs.setIfInBounds (off+x.2) x.1) Z):=by
  rw[←Array.foldl_toList,Array.toList_zipIdx]
 have hc:=hv.cells
 have hl:=r.1
 simp at hl
 rw[hzl,fold_splice V.cells.toList Z off 0 (by rw[hc.1];omega),fillAt_eq cs off v.cells hf,hc.1]
 exact((r.take _).append hc).append (r.drop _)
theorem fill_sim {G:Gh} {w:World} {fs:List (Nat × Nat × Bool)} {place:Nat→Option (Nat × Nat)} (hp:∀ i off sz ag,fs[i]?=some (off,sz,ag)→place i=some (off,sz)) :
  ∀ {is:List Nat} {vs:List AV} {Vs:List Value} {Z:Array Value} {cs out:List AV},VRs G w Vs vs→VRs G w Z.toList cs→cT fs cs (is.zip vs)=some out →
  ∃ C,Instr.fill place Z (is.zip Vs)=some C∧VRs G w C.toList out:=by
 intro is
 induction is with
 | nil=>
  intro vs Vs Z cs out hV hZ h
  simp only[List.zip_nil_left,cT,Option.some.injEq]at h
  subst h
  exact⟨Z,by simp[Instr.fill],hZ⟩
 | cons i is ih=>
  intro vs Vs Z cs out hV hZ h
  cases vs with
  | nil=>
   simp only[List.zip_nil_right,cT,Option.some.injEq]at h
   subst h
   have:Vs=[]:=List.eq_nil_of_length_eq_zero (by rw[hV.1];rfl)
   subst this
   exact⟨Z,by simp[Instr.fill],hZ⟩
  | cons v vs=>
   obtain⟨V,Vs',rfl,h1,h2⟩:=hV.uncons
   simp only[List.zip_cons_cons,cT]at h
   cases hf:fs[i]? with
   | none=>rw[hf]at h;simp at h
   | some q=>
    obtain⟨off,sz,ag⟩:=q
    rw[hf]at h
    simp only at h
    cases hc:(Nat.beq v.cells.length sz&&Nat.ble (off+sz) cs.length)with
    | false=>rw[hc]at h;simp at h
    | true=>
     rw[hc]at h
     simp only[cond_true]at h
     simp only[Bool.and_eq_true]at hc
     have hsz:=bV.1 hc.1
     have hle:=Nat.le_of_ble_eq_true hc.2
     have hcv:=h1.cells.1
     simp at hcv
     have hZl:=hZ.1
     simp at hZl
     obtain⟨C,k1,k2⟩:=ih h2 (fillAt_toList hZ h1 (off:=off) (by omega)) h
     refine⟨C,?_,k2⟩
     rw[List.zip_cons_cons]
     simp only[Instr.fill,hp i off sz ag hf]
     rw[if_neg (by simp;omega)]
     exact k1
section
variable {P:Program} {G:Gh} {w:World} {h:H}
theorem zero_VR {ty:Nat→Option TyI} (hT:TyOk P ty) {t:Nat} {i:TyI} {z:AV} (ht:ty t=some i) (hz:i.zero=some z) :
  ∃ inf Z,P.info? t=some inf∧inf.zero=some Z∧VR G w Z z:=by
 obtain⟨inf,d,h1,h2,_,_,_,h3,_⟩:=bM (hT t i ht)
 rw[h3]at hz
 obtain⟨Z,h4,h5⟩:=Option.bind_eq_some_iff.1 hz
 exact⟨inf,Z,h1,h4,ofVal_VR G w h5⟩
theorem fields_places {fields:Array Field} {fs:List (Nat × Nat × Bool)} (h:all0 (fieldOf P) fields.toList=some fs) :
  fields.toList.mapM (fun f=>(P.info? f.type).map fun i=>(f.offset,i.size))=some (fs.map fun x=>(x.1,x.2.1)):=by
 generalize fields.toList=l at h
 induction l generalizing fs with
 | nil=>simp[all0]at h;subst h;rfl
 | cons f l ih=>
  simp only[all0]at h
  cases hf:fieldOf P f with
  | none=>rw[hf]at h;simp at h
  | some b=>
   rw[hf]at h
   simp only at h
   cases hl:all0 (fieldOf P) l with
   | none=>rw[hl]at h;simp at h
   | some m=>
    rw[hl]at h
    simp only[Option.some.injEq]at h
    subst h
    unfold fieldOf at hf
    split at hf
    ·rename_i i d h1 h2
     simp only[Option.some.injEq]at hf
     subst hf
     simp[List.mapM_cons,h1,ih hl]
    ·simp at hf
theorem build_sim {ty:Nat→Option TyI} (hT:TyOk P ty) {t:Nat} {fs:List (Nat × Nat × Bool)} {sz byt:Nat} {z:AV} {ag:Bool} {ef:Option (List (Nat × Nat))} (ht:ty t=some ⟨.st fs,sz,byt,some z,ag,ef⟩)
  {parts:List (Nat × Operand)} {ρ:Operand→Value} {vs:List AV} (hv:VRs G w ((parts.map (·.2)).map ρ) vs) {cs:List AV} (hf:cT fs z.cells ((parts.map (·.1)).zip vs)=some cs) :
  ∃ C,(Instr.build t (parts.map fun x=>(x.1,ρ x.2)).toArray).run P w = .ok (.agg C) w∧VR G w (.agg C) (.agg cs):=by
 obtain⟨inf,d,h1,h2,hk,_,_,_,_⟩:=bM (hT t _ ht)
 obtain⟨fields,rfl,hfs⟩:=kind_struct hk
 obtain⟨inf',Z,h3,h4,h5⟩:=zero_VR (G:=G) (w:=w) hT ht rfl
 rw[h1]at h3
 simp only[Option.some.injEq]at h3
 subst h3
 have hpl:=fields_places hfs
 have e:(parts.map fun x=>(x.1,ρ x.2))=(parts.map (·.1)).zip ((parts.map (·.2)).map ρ):=by
  rw[List.map_map,List.zip_map']
  rfl
 obtain⟨C,hC1,hC2⟩:=fill_sim (place:=((fs.map fun x=>(x.1,x.2.1)).toArray[·]?)) (fun i off sz ag hi=>by simp[hi]) hv h5.cells hf
 refine⟨C,?_,.agg C cs (by have:=hC2.1;simpa using this) fun i u x hu hx=>hC2.2 i u x (by simpa using hu) hx⟩
 refine run_build w t _ C ?_
 unfold Program.built
 rw[h1,h2]
 simp only[h4,hpl]
 rw[e]
 exact hC1
theorem fL {s:Nat}:∀ {l:List AV},aM s l=true→∀ x∈l,x.cells.length=s
 | [],_,x,hx=>by simp at hx
 | v::l,h,x,hx=>by
  simp only[aM,Bool.and_eq_true]at h
  rcases List.mem_cons.1 hx with rfl|hx
  ·exact bV.1 h.1
  ·exact fL h.2 x hx
theorem dense_spec:∀ {l:List (Nat × Operand)} {k:Nat},aO k l=true→l.map (·.1)=List.range' k l.length
 | [],k,_=>rfl
 | (i,x)::l,k,h=>by
  simp only[aO,Bool.and_eq_true]at h
  rw[List.map_cons,List.length_cons,List.range'_succ,dense_spec h.2,bV.1 h.1]
theorem buildSlice_run {ty:Nat→Option TyI} (hT:TyOk P ty) (I:Inv G w h) {t e len:Nat} {s1 b1:Nat} {z1:Option AV} {a1:Bool} {ef1 ef2:Option (List (Nat × Nat))} (ht:ty t=some ⟨.sl e,s1,b1,z1,a1,ef1⟩)
  {k:TK} {sz byt:Nat} {z:AV} {ag:Bool} (he:ty e=some ⟨k,sz,byt,some z,ag,ef2⟩) {parts:List (Nat × Operand)} {ρ:Operand→Value} {vs:List AV} (hv:VRs G w ((parts.map (·.2)).map ρ) vs)
  (hd:aO 0 parts=true) (hl:vs.length=len) (hs:aM sz vs=true) (hsz:0<sz) (hzl:z.cells.length=sz) (hmax:len*sz≤16777216) :
  ∃ C:Array Value,(Instr.buildSlice t len (parts.map fun x=>(x.1,ρ x.2)).toArray).run P w = .ok (.slice (some ⟨w.heap.size,0,none⟩) len len) (w.alloc (.cells C e))∧VRs G w C.toList (vs.flatMap AV.cells)∧C.size=len*sz:=by
 obtain⟨inf,d,h1,h2,hk,_⟩:=bM (hT t _ ht)
 have:=dP hk
 subst this
 obtain⟨ie,de,g1,g2,_,hsize,_⟩:=bM (hT e _ he)
 simp only at hsize
 obtain⟨ie',Z,g3,g4,g5⟩:=zero_VR (G:=G) (w:=w) hT he rfl
 rw[g1]at g3
 simp only[Option.some.injEq]at g3
 subst g3
 have hZs:Z.cells.size=sz:=by have:=g5.cells.1;simp at this;omega
 have hvl:=hv.1
 simp at hvl
 have epar:(parts.map fun x=>(x.1,ρ x.2))=(parts.map (·.1)).zip ((parts.map (·.2)).map ρ):=by
  rw[List.map_map,List.zip_map']
  rfl
 have hVs:∀ V∈(parts.map (·.2)).map ρ,V.cells.size=sz:=by
  intro V hV
  obtain⟨i,hi⟩:=List.getElem?_of_mem hV
  have hil:=aI hi
  rw[hv.1]at hil
  have hx:=hv.2 i V vs[i] hi (List.getElem?_eq_getElem hil)
  have:=hx.cells.1
  rw[fL hs _ (List.getElem_mem hil)]at this
  simpa using this
 obtain⟨C,hC1,hC2⟩:=fill_dense sz ((parts.map (·.2)).map ρ) 0 ((Array.range (len*sz)).map (Z.cells[· % Z.cells.size]!)) hVs (by simp[hvl,hl])
 rw[List.length_map,List.length_map,←dense_spec hd,←epar]at hC1
 simp only[Nat.zero_mul,List.take_zero,List.nil_append]at hC2
 have hflat:VRs G w C.toList (vs.flatMap AV.cells):=by rw[hC2];exact hv.flat
 refine⟨C,?_,hflat,?_⟩
 ·unfold Instr.buildSlice
  have hbig:¬ len*sz > 2 ^ 24:=by omega
  simp only[Sem.run_bind,bL h2,Result.andThen_ok,run_sizeOf g1,←hsize,hbig,if_false]
  by_cases hz0:len*sz=0
  ·have e0:((Array.range (len*sz)).map (Z.cells[· % Z.cells.size]!))=((Array.range (len*sz)).map ((#[]:Array Value)[· % (#[]:Array Value).size]!)):=by rw[hz0];simp
   rw[e0]at hC1
   rw[hz0]at hC1 ⊢
   simp only[if_true,Sem.run_pure,Result.andThen_ok,hC1,newRow,Sem.run_bind,run_newObj,World.alloc_eq]
  ·simp only[hz0,if_false,Sem.run_bind,run_zero g1 g4,Result.andThen_ok,Sem.run_pure,hC1,newRow,run_newObj,World.alloc_eq]
 ·have:=hflat.1
  rw[flat_length _ sz vs (fL hs),hl]at this
  simpa using this
theorem buildSlice_sim {ty:Nat→Option TyI} (hT:TyOk P ty) (I:Inv G w h) {t e len:Nat} {s1 b1:Nat} {z1:Option AV} {a1:Bool} {ef1 ef2:Option (List (Nat × Nat))} (ht:ty t=some ⟨.sl e,s1,b1,z1,a1,ef1⟩)
  {k:TK} {sz byt:Nat} {z:AV} {ag:Bool} (he:ty e=some ⟨k,sz,byt,some z,ag,ef2⟩) {parts:List (Nat × Operand)} {ρ:Operand→Value} {vs:List AV} (hv:VRs G w ((parts.map (·.2)).map ρ) vs)
  (hd:aO 0 parts=true) (hl:vs.length=len) (hs:aM sz vs=true) (hsz:0<sz) (hzl:z.cells.length=sz) (hmax:len*sz≤16777216) :
  ∃ V w',(Instr.buildSlice t len (parts.map fun x=>(x.1,ρ x.2)).toArray).run P w = .ok V w'∧Inv G w' h∧Ext G w h G w' h∧VR G w' V (.sl .full vs):=by
 obtain⟨C,h1,hflat,_⟩:=buildSlice_run (G:=G) (w:=w) hT I ht he hv hd hl hs hsz hzl hmax
 refine⟨_,_,h1,alloc_inv I _,alloc_ext I _,?_⟩
 have:=VR.sl_new (e:=e) (fL hs) hflat I
 rw[hl]at this
 simpa using this
end
end Go.Ev
namespace Go.Ev
variable [Inhabited KA0] [MT]
section
variable {P:Program} {G:Gh} {w:World} {h:H}
def iv (n:Nat):Value := .int .i64 (Int.ofNat n)
theorem natOf_VR {tm:Tm} {ρ:Operand→Value} {x:Option Operand} {a:Option AV} {r:Option Nat} (hx:cD tm x=some a) (hn:dE a=some r) (hv:∀ y∈x.toArray,∀ u,val tm y=some u→VR G w (ρ y) u):x.map ρ=r.map iv:=by
 cases x with
 | none=>
  simp only[cD,Option.some.injEq]at hx
  subst hx
  simp only[dE,Option.some.injEq]at hn
  subst hn
  rfl
 | some y=>
  simp only[cD]at hx
  obtain⟨u,hu,rfl⟩:=Option.map_eq_some_iff.1 hx
  unfold dE at hn
  split at hn
  ·rename_i e;cases e
  ·rename_i n e
   simp only[Option.some.injEq]at e hn
   subst e;subst hn
   have:=hv y (by simp) _ hu
   simp only[Option.map_some]
   generalize ρ y=z at this
   cases this
   rfl
  ·simp at hn
theorem bounds_none {isS:Bool} {len cap:Nat} {lo hi:Option Nat} (h1:lo.getD 0≤hi.getD len) (h2:hi.getD len≤cap) :
  (Instr.sliceBounds isS len cap (lo.map iv) (hi.map iv) none).run P w = .ok (lo.getD 0,hi.getD len,cap) w:=by
 cases lo<;>cases hi<;>simp only[Option.map_none,Option.map_some,Option.getD_none,Option.getD_some,iv]at * <;>
  simp[Instr.sliceBounds,run_sliceBound, *]
theorem bounds_some {isS:Bool} {len cap h m:Nat} {lo:Option Nat} (h1:lo.getD 0≤h) (h2:h≤m) (h3:m≤cap) :
  (Instr.sliceBounds isS len cap (lo.map iv) (some (iv h)) (some (iv m))).run P w = .ok (lo.getD 0,h,m) w:=by
 cases lo<;>simp only[Option.map_none,Option.map_some,Option.getD_none,Option.getD_some,iv]at * <;>
  simp[Instr.sliceBounds,run_sliceBound, *]
theorem slice_str_sim {t:Nat} (hd:P.underlying t=some .string) {s:ByteArray} {lo hi:Option Nat} {v:AV} (hv:bW (.str (bytesOf s)) lo hi none=some v) :
  ∃ V,(Instr.sliceAt t (.string s) (lo.map iv) (hi.map iv) none).run P w = .ok V w∧VR G w V v:=by
 unfold bW at hv
 simp only at hv
 cases hc:(Nat.ble (lo.getD 0) (hi.getD (bytesOf s).length)&&Nat.ble (hi.getD (bytesOf s).length) (bytesOf s).length)with
 | false=>rw[hc]at hv;simp at hv
 | true=>
  rw[hc]at hv
  simp only[cond_true,Option.some.injEq]at hv
  simp only[Bool.and_eq_true]at hc
  have h1:=Nat.le_of_ble_eq_true hc.1
  have h2:=Nat.le_of_ble_eq_true hc.2
  rw[fP]at h1 h2 hv
  have hb:=bounds_none (P:=P) (w:=w) (isS:=false) (lo:=lo) (hi:=hi) (len:=s.size) (cap:=s.size) h1 h2
  refine⟨.string (s.extract (lo.getD 0) (hi.getD s.size)),?_,?_⟩
  ·rw[run_sliceAt_string w t _ _ _ _ hd]
   unfold Instr.slice
   simp only[Sem.run_bind,bL hd,Result.andThen_ok,hb,Option.isSome_none,Bool.false_eq_true,if_false,Sem.run_pure]
  ·subst hv
   have:(List.take (hi.getD s.size-lo.getD 0) (List.drop (lo.getD 0) (bytesOf s)))=bytesOf (s.extract (lo.getD 0) (hi.getD s.size)):=by
    unfold bytesOf
    rw[Lib.extract_data,List.map_take,List.map_drop]
   rw[this]
   exact .str _
theorem slice_sl_sim {t e:Nat} {ie:TypeInfo} (hd:P.underlying t=some (.slice e)) (hi:P.info? e=some ie) {A:Value} {o:Own} {els:List AV} (hA:VR G w A (.sl o els)) (hs:aM ie.size els=true)
  {lo hh mx:Option Nat} {v:AV} (hv:bW (.sl o els) lo hh mx=some v) :
  ∃ V,(Instr.sliceAt t A (lo.map iv) (hh.map iv) (mx.map iv)).run P w = .ok V w∧VR G w V v:=by
 have hrun:∀ (a:Option Addr) (len cap l h m:Nat),(Instr.sliceBounds true len cap (lo.map iv) (hh.map iv) (mx.map iv)).run P w = .ok (l,h,m) w →
   (Instr.sliceAt t (.slice a len cap) (lo.map iv) (hh.map iv) (mx.map iv)).run P w = .ok (.slice (if m=l then a else a.map (·.add (l*ie.size))) (h-l) (m-l)) w:=by
  intro a len cap l h m hb
  have e1:(Instr.sliceAt t (.slice a len cap) (lo.map iv) (hh.map iv) (mx.map iv)).run P w=(Instr.slice t (.slice a len cap) (lo.map iv) (hh.map iv) (mx.map iv)).run P w:=by
   simp[Instr.sliceAt,bL hd]
  rw[e1]
  unfold Instr.slice
  simp only[Sem.run_bind,bL hd,Result.andThen_ok,hb,run_sizeOf hi,Sem.run_pure]
 have piece:∀ (len cap l h m:Nat) (a:Option Addr) (o':Own),A = .slice a len cap→els.length=len→l≤h→h≤len→h≤m→m≤cap →
   OwnR G o' (.slice (if m=l then a else a.map (·.add (l*ie.size))) (h-l) (m-l)) (h-l) (m-l) →
   VR G w (.slice (if m=l then a else a.map (·.add (l*ie.size))) (h-l) (m-l)) (.sl o' ((els.drop l).take (h-l))):=by
  intro len cap l h m a o' hAe hlen hlh hhl hhm hmc ho'
  subst hAe
  cases hA with
  | sl0 _ _ o hn ho=>
   have e1:h=0:=by simp at hlen;omega
   have e2:l=0:=by omega
   subst e1;subst e2
   simp only[Nat.sub_self,List.take_zero]at ho' ⊢
   refine .sl0 _ _ _ (fun hz => ?_) ho'
   cases a with
   | none=>have:=hn rfl;omega
   | some a=>split at hz<;>simp at hz
  | sl b off _ _ s _ _ f hl2 hc2 hs2 h1 h2 ho2=>
   have hlen':((els.drop l).take (h-l)).length=h-l:=by simp;omega
   by_cases hml:m=l
   ·rw[if_pos hml]at ho' ⊢
    have e1:h-l=0:=by omega
    have e2:m-l=0:=by omega
    rw[e1,e2]at ho' ⊢
    simp only[List.take_zero]
    exact .sl b off 0 0 0 o' [] (fun _ _=>undef) rfl (Nat.le_refl _) (fun x hx=>by simp at hx) (fun i j hi=>absurd hi (by omega)) (fun i j x y hx=>by simp at hx) ho'
   ·rw[if_neg hml]at ho' ⊢
    simp only[Option.map_some,addr_add]at ho' ⊢
    have hss:∀ x∈els,x.cells.length=ie.size:=fL hs
    by_cases hz:els=[]
    ·subst hz
     have e1:h-l=0:=by simp at hlen;omega
     rw[e1]at ho' ⊢
     simp only[List.take_zero]
     exact .sl b _ 0 _ 0 o' [] (fun _ _=>undef) rfl (Nat.zero_le _) (fun x hx=>by simp at hx) (fun i j hi=>absurd hi (by omega)) (fun i j x y hx=>by simp at hx) ho'
    ·obtain⟨x0,hx0⟩:=List.exists_mem_of_ne_nil els hz
     have hse:s=ie.size:=by rw[←hs2 x0 hx0,hss x0 hx0]
     subst hse
     refine .sl b _ (h-l) (m-l) _ o' _ (fun i j=>f (l+i) j) hlen' (by omega) (fun x hx=>hs2 x (List.mem_of_mem_drop (List.mem_of_mem_take hx))) (fun i j hi hj => ?_) (fun i j x y hx hy => ?_) ho'
     ·have:=h1 (l+i) j (by omega) hj
      rw[Nat.add_mul]at this
      rw[show off+l*ie.size+i*ie.size+j=off+(l*ie.size+i*ie.size)+j by omega]
      exact this
     ·have hi:=aI hx
      rw[hlen']at hi
      rw[List.getElem?_take_of_lt hi,List.getElem?_drop]at hx
      exact h2 (l+i) j x y hx hy
 unfold bW at hv
 simp only at hv
 obtain⟨a,len,cap,hAe,hlen,hcap,how⟩:∃ a len cap,A = .slice a len cap∧els.length=len∧len≤cap∧OwnR G o (.slice a len cap) len cap:=by
  cases hA with
  | sl0 A cap o hn ho=>exact⟨A,0,cap,rfl,rfl,Nat.zero_le _,ho⟩
  | sl b off len cap s o els f hl2 hc2 hs2 h1 h2 ho2=>exact⟨_,len,cap,rfl,hl2,hc2,ho2⟩
 cases mx with
 | some m=>
  simp only at hv
  cases hh with
  | none=>simp at hv
  | some q=>
   simp only[Option.getD_some]at hv
   cases hc:(Nat.ble (lo.getD 0) q&&(Nat.ble q m&&Nat.ble m els.length))with
   | false=>rw[hc]at hv;simp at hv
   | true=>
    rw[hc]at hv
    simp only[cond_true,Option.some.injEq]at hv
    simp only[Bool.and_eq_true]at hc
    have c1:=Nat.le_of_ble_eq_true hc.1
    have c2:=Nat.le_of_ble_eq_true hc.2.1
    have c3:=Nat.le_of_ble_eq_true hc.2.2
    subst hv
    refine⟨_,by rw[hAe];exact hrun a len cap _ _ _ (bounds_some c1 c2 (by omega)),?_⟩
    refine piece len cap _ _ _ a _ hAe hlen c1 (by omega) c2 (by omega) ?_
    cases hqm:Nat.beq q m with
    | true=>
     simp only[cond_true,OwnR]
     have:=bV.1 hqm
     omega
    | false=>simp only[cond_false];trivial
 | none=>
  simp only at hv
  cases hc:(Nat.ble (lo.getD 0) (hh.getD els.length)&&Nat.ble (hh.getD els.length) els.length)with
  | false=>rw[hc]at hv;simp at hv
  | true=>
   rw[hc]at hv
   simp only[cond_true,Option.some.injEq]at hv
   simp only[Bool.and_eq_true]at hc
   have c1:=Nat.le_of_ble_eq_true hc.1
   have c2:=Nat.le_of_ble_eq_true hc.2
   subst hv
   rw[hlen]at c1 c2 ⊢
   refine⟨_,by rw[hAe];exact hrun a len cap _ _ _ (bounds_none c1 (by omega)),?_⟩
   refine piece len cap _ _ _ a _ hAe hlen c1 c2 (by omega) (Nat.le_refl _) ?_
   cases hq:Nat.beq (hh.getD len) len with
   | false=>simp only[cond_false];trivial
   | true=>
    have hql:=bV.1 hq
    simp only[cond_true]
    cases o with
    | no=>trivial
    | full=>
     simp only[OwnR]at how ⊢
     omega
    | ch id=>
     simp only
     cases hl0:Nat.beq (lo.getD 0) 0 with
     | false=>simp only[cond_false];trivial
     | true=>
      simp only[cond_true]
      have:=bV.1 hl0
      rw[this,hql]
      have e:(if cap=0 then a else a.map (·.add (0*ie.size)))=a:=by
       split
       ·rfl
       ·cases a<;>simp[Addr.add]
      rw[e]
      exact how
end
section
variable {P:Program} {G:Gh} {w:World} {h:H}
theorem slice_rs_sim {t e:Nat} {ie:TypeInfo} (hd:P.underlying t=some (.slice e)) (hi:P.info? e=some ie) {id len b cap:Nat} {own:Bool} (hcap:len≤cap) (hr:RowR G id len b fun c=>own=true→c=cap)
  {lo hh mx:Option Nat} (h1:lo.getD 0=0) (h2:hh.getD len=len) (h3:mx.getD len=len) (h4:mx.isNone=true∨hh.isSome=true) :
  ∃ V,(Instr.sliceAt t (.slice (some ⟨b,0,none⟩) len cap) (lo.map iv) (hh.map iv) (mx.map iv)).run P w = .ok V w∧VR G w V (.rs id len (own&&mx.isNone)):=by
 have hrun:∀ (a:Option Addr) (len cap l h m:Nat),(Instr.sliceBounds true len cap (lo.map iv) (hh.map iv) (mx.map iv)).run P w = .ok (l,h,m) w →
   (Instr.sliceAt t (.slice a len cap) (lo.map iv) (hh.map iv) (mx.map iv)).run P w = .ok (.slice (if m=l then a else a.map (·.add (l*ie.size))) (h-l) (m-l)) w:=by
  intro a len cap l h m hb
  have e1:(Instr.sliceAt t (.slice a len cap) (lo.map iv) (hh.map iv) (mx.map iv)).run P w=(Instr.slice t (.slice a len cap) (lo.map iv) (hh.map iv) (mx.map iv)).run P w:=by
   simp[Instr.sliceAt,bL hd]
  rw[e1]
  unfold Instr.slice
  simp only[Sem.run_bind,bL hd,Result.andThen_ok,hb,run_sizeOf hi,Sem.run_pure]
 have same:∀ m:Nat,(Value.slice (if m=0 then some ⟨b,0,none⟩else(some ⟨b,0,none⟩:Option Addr).map (·.add (0*ie.size))) (len-0) (m-0)) = .slice (some ⟨b,0,none⟩) len m:=by
  intro m
  split<;>simp[addr_add]
 cases mx with
 | none=>
  have hb:=bounds_none (P:=P) (w:=w) (isS:=true) (len:=len) (cap:=cap) (lo:=lo) (hi:=hh) (by rw[h1];exact Nat.zero_le _) (by rw[h2];exact hcap)
  rw[h1,h2]at hb
  refine⟨_,hrun _ _ _ 0 len cap hb,?_⟩
  rw[same]
  simp only[Option.isNone_none,Bool.and_true]
  exact .rs id len b cap own hcap hr
 | some m=>
  simp only[Option.getD_some]at h3
  subst h3
  cases hh with
  | none=>simp at h4
  | some k=>
   simp only[Option.getD_some]at h2
   subst h2
   have hb:=bounds_some (P:=P) (w:=w) (isS:=true) (len:=k) (cap:=cap) (h:=k) (m:=k) (lo:=lo) (by rw[h1];exact Nat.zero_le _) (Nat.le_refl _) hcap
   rw[h1]at hb
   refine⟨_,hrun _ _ _ 0 k k hb,?_⟩
   rw[same]
   simp only[Option.isNone_some,Bool.and_false]
   exact .rs id k b k false (Nat.le_refl _) (hr.imp fun c _ e=>by cases e)
theorem slice_rv_sim {t e:Nat} {ie:TypeInfo} (hd:P.underlying t=some (.slice e)) (hi:P.info? e=some ie) {id len b cap k:Nat} (hk:k≤len) (hcap:len≤cap) (hr:RowR G id len b fun c=>c=cap)
  {lo hh:Option Nat} (h1:lo.getD 0=0) (h2:hh.getD k≤len) :
  ∃ V,(Instr.sliceAt t (.slice (some ⟨b,0,none⟩) k cap) (lo.map iv) (hh.map iv) ((none:Option Nat).map iv)).run P w = .ok V w∧VR G w V (.rv id len (hh.getD k)):=by
 have hrun:∀ (a:Option Addr) (len cap l h m:Nat),(Instr.sliceBounds true len cap (lo.map iv) (hh.map iv) ((none:Option Nat).map iv)).run P w = .ok (l,h,m) w →
   (Instr.sliceAt t (.slice a len cap) (lo.map iv) (hh.map iv) ((none:Option Nat).map iv)).run P w = .ok (.slice (if m=l then a else a.map (·.add (l*ie.size))) (h-l) (m-l)) w:=by
  intro a len cap l h m hb
  have e1:(Instr.sliceAt t (.slice a len cap) (lo.map iv) (hh.map iv) ((none:Option Nat).map iv)).run P w=(Instr.slice t (.slice a len cap) (lo.map iv) (hh.map iv) ((none:Option Nat).map iv)).run P w:=by
   simp[Instr.sliceAt,bL hd]
  rw[e1]
  unfold Instr.slice
  simp only[Sem.run_bind,bL hd,Result.andThen_ok,hb,run_sizeOf hi,Sem.run_pure]
 have same:∀ m:Nat,(Value.slice (if m=0 then some ⟨b,0,none⟩else(some ⟨b,0,none⟩:Option Addr).map (·.add (0*ie.size))) (hh.getD k-0) (m-0)) = .slice (some ⟨b,0,none⟩) (hh.getD k) m:=by
  intro m
  split<;>simp[addr_add]
 have hb:=bounds_none (P:=P) (w:=w) (isS:=true) (len:=k) (cap:=cap) (lo:=lo) (hi:=hh) (by rw[h1];exact Nat.zero_le _) (by omega)
 rw[h1]at hb
 refine⟨_,hrun _ _ _ 0 (hh.getD k) cap hb,?_⟩
 rw[same]
 exact .rv id len (hh.getD k) b cap h2 hcap hr
theorem grow_ext (G:Gh) (h:H) {w w':World} (h1:w'.os=w.os) (h2:w'.tape=w.tape) (h3:w'.output=w.output) (h4:w.heap.size≤w'.heap.size) (h5:∀ j,j<w.heap.size→w'.heap[j]?=w.heap[j]?):Ext G w h G w' h where
 os:=h1
 tape:=h2
 output:=h3
 size:=h4
 base:=rfl
 still:=fun b hb hf=>⟨h5 b hb,hf⟩
 part:=fun b k q v hf ho hv=>⟨(World.cell?_of_block (w:=w) (a:=⟨b,q,none⟩) (h5 b (World.block_lt_of_cell? w ⟨b,q,none⟩ hv))).trans hv,.inr ⟨k,hf,ho⟩⟩
 ρ:=fun _ _ h=>h
 cv:=fun _ n v h=>⟨n,v,h,Nat.le_refl _,fun _=>rfl⟩
 nx:=Nat.le_refl _
 unm:=fun _ _ a b=>⟨rfl,a,b⟩
 own:=fun b hb ho=>⟨h5 b hb,rfl,ho⟩
theorem grow_inv (I:Inv G w h) {w':World} (h1:w'.os=w.os) (h2:w'.tape=w.tape) (h3:w'.output=w.output) (h4:w.heap.size≤w'.heap.size) (h5:∀ j,j<w.heap.size→w'.heap[j]?=w.heap[j]?):Inv G w' h where
 wf:=I.wf
 frb:=fun b k hf=>⟨(I.frb b k hf).1,Nat.lt_of_lt_of_le (I.frb b k hf).2 h4⟩
 bas:=Nat.le_trans I.bas h4
 obj:=fun id b hr=>by
  obtain⟨a1,a2,a3,a4⟩:=I.obj id b hr
  refine⟨a1,a2,a3,?_⟩
  rw[h5 b (I.frb b 0 a2).2]
  exact a4.mono (grow_ext G h h1 h2 h3 h4 h5)
 chn:=fun id n v hc=>by
  obtain⟨a1,g,e,size,xs,cap,k,b2,b3,b4,b5⟩:=I.chn id n v hc
  refine⟨a1,g,e,size,xs,cap,k,b2.mono (grow_ext G h h1 h2 h3 h4 h5),b3,b4.kept (row:=none) ⟨h1,h2,h3,h4,fun k hk _=>h5 k hk⟩ (.inr ?_),b5⟩
  subst b3
  simp[Value.ownBlock]
 ka:=I.ka.mono (grow_ext G h h1 h2 h3 h4 h5)
theorem strBytes_sim (I:Inv G w h) {src dst e:Nat} {u:TypeDesc} (hs:P.underlying src=some u) (hd:P.underlying dst=some (.slice e)) (he:P.underlying e=some (.int .u8)) (s:ByteArray) :
  ∃ V w',(convert src dst (.string s)).run P w = .ok V w'∧Inv G w' h∧Ext G w h G w' h∧VR G w' V (.sl .no ((bytesOf s).map fun n => .int .u8 (Int.ofNat n))):=by
 have h5:∀ j,j<w.heap.size→(Lib.bytesWorld w e s).heap[j]?=w.heap[j]?:=fun j hj=>Lib.bytesWorld_at_old w e s j hj
 have h4:w.heap.size≤(Lib.bytesWorld w e s).heap.size:=by rw[Lib.bytesWorld_size];omega
 have e1:(Lib.bytesWorld w e s).os=w.os:=by simp[Lib.bytesWorld,World.freeze,World.alloc,World.drew,-World.alloc_eq,-World.drew_eq]
 have e2:(Lib.bytesWorld w e s).tape=w.tape:=by simp[Lib.bytesWorld,World.freeze,World.alloc,World.drew,-World.alloc_eq,-World.drew_eq]
 have e3:(Lib.bytesWorld w e s).output=w.output:=by simp[Lib.bytesWorld,World.freeze,World.alloc,World.drew,-World.alloc_eq,-World.drew_eq]
 refine⟨_,_,Lib.run_convert_string_bytes w src dst e s hs hd he,grow_inv I e1 e2 e3 h4 h5,grow_ext G h e1 e2 e3 h4 h5,?_⟩
 have hf:G.fr w.heap.size=none:=I.fresh.2.2
 refine .sl w.heap.size 0 s.size _ 1 .no _ (fun i _ => .int .u8 ((s.data.toList.getD i 0).toNat:Int)) (by simp[fP]) (grownCap_ge ..) (fun x hx => ?_) (fun i j hi hj=>⟨?_,.inl hf⟩) (fun i j x y hx hy => ?_) trivial
 ·obtain⟨n,_,rfl⟩:=List.mem_map.1 hx
  rfl
 ·obtain rfl:j=0:=by omega
  have:=Lib.bytesWorld_cell w e s i hi
  simpa using this
 ·obtain⟨n,hn,rfl⟩:∃ n,(bytesOf s)[i]?=some n∧x = .int .u8 (Int.ofNat n):=by
   rw[List.getElem?_map]at hx
   cases hb:(bytesOf s)[i]? with
   | none=>rw[hb]at hx;simp at hx
   | some n=>rw[hb]at hx;simp at hx;exact⟨n,rfl,hx.symm⟩
  have hj:j=0∧y = .int .u8 (Int.ofNat n):=by
   cases j with
   | zero=>simp[AV.cells]at hy;exact⟨rfl,hy.symm⟩
   | succ j=>simp[AV.cells]at hy
  obtain⟨rfl,rfl⟩:=hj
  have:(s.data.toList.getD i 0).toNat=n:=by
   unfold bytesOf at hn
   rw[List.getElem?_map]at hn
   cases hb:s.data.toList[i]? with
   | none=>rw[hb]at hn;simp at hn
   | some c=>rw[hb]at hn;simp at hn;rw[List.getD_eq_getElem?_getD,hb];simpa using hn
  rw[this]
  exact .int _ _
theorem byteEls_some:∀ {els:List AV} {m:List Nat},byteEls els=some m→els=m.map (fun n => .int .u8 (Int.ofNat n))∧∀ n∈m,n<256
 | [],m,h=>by simp[byteEls]at h;subst h;simp
 | x::l,m,h=>by
  unfold byteEls at h
  split at h
  ·simp_all
  ·rename_i n l' hx
   split at h
   ·simp at h
   ·rename_i m' hm
    cases hb:Nat.blt n 256 with
    | false=>rw[hb]at h;simp at h
    | true=>
     rw[hb]at h
     simp only[cond_true,Option.some.injEq]at h
     subst h
     simp only[List.cons.injEq]at hx
     obtain⟨rfl,rfl⟩:=hx
     obtain⟨h1,h2⟩:=byteEls_some hm
     refine⟨by rw[h1];rfl,fun k hk => ?_⟩
     rcases List.mem_cons.1 hk with rfl|hk
     ·exact cR.1 hb
     ·exact h2 k hk
  ·simp at h
theorem bytesOf_fold:∀ (ns:List Int) (r:ByteArray),bytesOf (ns.foldl (fun r n=>r.push (UInt8.ofNat n.toNat)) r)=bytesOf r++ns.map fun n=>(UInt8.ofNat n.toNat).toNat
 | [],r=>by simp
 | n::ns,r=>by
  rw[List.foldl_cons,bytesOf_fold ns]
  simp[bytesOf,ByteArray.push]
theorem bytesStr_sim {V:Value} {o:Own} {els:List AV} (hV:VR G w V (.sl o els)) {m:List Nat} (hm:byteEls els=some m) :
  ∃ S,(Conv.bytesToString V).run P w = .ok (.string S) w∧bytesOf S=m:=by
 obtain⟨h1,h2⟩:=byteEls_some hm
 cases hV with
 | sl0 A _ _ _ _=>
  cases m with
  | nil=>cases A with
   | none=>exact⟨.empty,by simp[Conv.bytesToString],rfl⟩
   | some a=>exact⟨.empty,by simp[Conv.bytesToString,loadCells,loadCellsFrom],rfl⟩
  | cons a m=>simp at h1
 | sl b off len cap s _ _ f hl hc hs hst hvr ho=>
  refine⟨_,run_bytesToString w ⟨b,off,none⟩ len cap (m.map Int.ofNat) ?_,?_⟩
  ·have hload:=run_loadCells (P:=P) (w:=w) ⟨b,off,none⟩ len (fun j=>f j 0) (fun j hj=>by
    rw[addr_add]
    have hj':j<els.length:=by omega
    have h1s:s=1:=by
     have:=hs els[j] (List.getElem_mem hj')
     subst h1
     simp[AV.cells]at this
     exact this.symm
    subst h1s
    have:=(hst j 0 hj (by omega)).1
    simpa using this)
   rw[hload]
   congr 2
   apply List.ext_getElem?
   intro j
   by_cases hj:j<len
   ·have hj':j<els.length:=by omega
    have hjm:j<m.length:=by rw[h1]at hj';simpa using hj'
    have hx:els[j]?=some (.int .u8 (Int.ofNat m[j])):=by rw[h1];simp[hjm]
    have:=hvr j 0 _ (.int .u8 (Int.ofNat m[j])) hx rfl
    have hfj:f j 0 = .int .u8 (Int.ofNat m[j]):=by
     generalize f j 0=z at this
     cases this
     rfl
    simp[hj,hjm,hfj]
   ·have:¬ j<m.length:=by rw[h1]at hl;simp at hl;omega
    simp[hj,this]
  ·rw[bytesOf_fold]
   have:(m.map Int.ofNat).map (fun n=>(UInt8.ofNat n.toNat).toNat)=m:=by
    rw[List.map_map]
    conv=>rhs;rw[←List.map_id m]
    refine List.map_congr_left fun n hn => ?_
    have:=h2 n hn
    simp
    omega
   rw[this]
   rfl
end
end Go.Ev
