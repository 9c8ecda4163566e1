/- Each operation of the abstract machine is the model's: all. -/
import Derived.Test.YtogjplcnmibnlaaGreatDoorEvQa
import Derived.Laws.MakeOwn
set_option autoImplicit false
set_option linter.unusedSectionVars false
set_option linter.unusedVariables false
set_option linter.unusedSimpArgs false
namespace Go.Ev
variable [Inhabited KA0] [MT]
section
variable {P:Program} {G:Gh} {w:World} {h:H}
theorem zeros_length (z:List AV):∀ n,(zeros z n).length=n*z.length
 | 0=>by simp[zeros]
 | n+1=>by rw[zeros,List.length_append,zeros_length z n,Nat.add_mul];omega
theorem zeros_get (z:List AV):∀ (n i:Nat),i<n*z.length→(zeros z n)[i]?=z[i % z.length]?
 | 0,i,h=>by simp at h
 | n+1,i,h=>by
  rw[zeros,List.getElem?_append]
  split
  ·rename_i hi
   rw[Nat.mod_eq_of_lt hi]
  ·rename_i hi
   have h2:(n+1)*z.length=n*z.length+z.length:=Nat.succ_mul n z.length
   rw[zeros_get z n (i-z.length) (by omega)]
   congr 1
   exact(Nat.mod_eq_sub_mod (by omega)).symm
theorem made_VRs {Z:Array Value} {sz:Nat} {zs:List AV} (hzs:Z.size=sz) (hsz:0<sz) (hzl:zs.length=sz) (hv:VRs G w Z.toList zs) (n:Nat):VRs G w (madeCells Z (n*sz)).toList (zeros zs n):=by
 refine⟨by rw[zeros_length,hzl,Array.length_toList,size_madeCells],fun i v x h1 h2 => ?_⟩
 have hi:i<n*zs.length:=by have:=aI h2;rwa [zeros_length]at this
 rw[zeros_get zs n i hi,hzl]at h2
 rw[hzl]at hi
 have hm:=Nat.mod_lt i hsz
 refine hv.2 (i % sz) v x ?_ h2
 simp only[madeCells,Array.toList_map,Array.toList_range,List.getElem?_map,List.getElem?_range hi,Option.map_some,Option.some.injEq]at h1
 rw[hzs]at h1
 rw[←h1,Array.getElem?_toList,getElem!_pos Z (i % sz) (by omega),Array.getElem?_eq_getElem (by omega)]
theorem new_sim {ty:Nat→Option TyI} (hT:TyOk P ty):AllocOk P ty:=by
 intro G w h tm a o obj vOf id I hk he hv hid hr hc hg
 have lift:∀ {V:Value} {s:Sem Value} {w':World},s.run P w = .ok V w'→(do pure (Next.value (←s)):Sem Next).run P w = .ok (.value V) w':=by
  intro V s w' hs
  simp only[Sem.run_bind,hs,Result.andThen_ok,Sem.run_pure]
 have cells:∀ {V:Value} {x:AV},VR G w V x→∀ e,ObjR G w (some (.cells x.cells)) (some (.cells V.cells e)):=fun hV e=>⟨rfl,hV.cells⟩
 have ptr:∀ p,VR (G.add id w.heap.size) (w.alloc p) (.pointer (some ⟨w.heap.size,0,none⟩)) (.ptr (some (id,0))):=fun p => .ptr id w.heap.size 0 (by simp[Gh.add])
 unfold execOp
 cases ho:o.op<;>rw[ho]at hk hv he<;>simp only[bX,reduceCtorEq]at he<;>simp only[]
 case alloc t=>
  split at he
  ·rename_i k s b z ag ef ht
   simp only[Option.some.injEq,Prod.mk.injEq]at he
   obtain⟨rfl,rfl⟩:=he
   obtain⟨inf,Z,h1,h2,h3⟩:=zero_VR (G:=G) (w:=w) hT ht rfl
   refine⟨_,.cells Z.cells t,_,lift ?_,add_R I id hid hr hc _ (by rw[hg];exact cells h3 t),ptr _⟩
   simp only[Instr.alloc,Sem.run_bind,run_zero h1 h2,Result.andThen_ok,newVar,newRow,run_newObj,World.alloc_eq,Sem.run_pure]
  ·simp at he
 case box t x=>
  split at he
  ·rename_i u hu
   simp only[Option.some.injEq,Prod.mk.injEq]at he
   obtain⟨rfl,rfl⟩:=he
   refine⟨_,.cells (a.eval x).cells t,_,lift ?_,add_R I id hid hr hc _ (by rw[hg];exact cells (hv x (by simp[Op.operands]) u hu) t),ptr _⟩
   simp only[Instr.box,Sem.run_bind,newVar,newRow,run_newObj,Result.andThen_ok,World.alloc_eq,Sem.run_pure]
  ·simp at he
 case makeMap t r=>
  split at he
  ·simp only[Option.some.injEq,Prod.mk.injEq]at he
   obtain⟨rfl,rfl⟩:=he
   refine⟨.map (some w.heap.size),.map #[] 0,_,lift ?_,add_R I id hid hr hc _ (by rw[hg];exact⟨rfl,fun i e k x h1=>by simp at h1⟩),.map id w.heap.size (by simp[Gh.add])⟩
   simp[Instr.makeMap]
  ·simp at he
 case buildSlice t len parts=>
  split at he
  ·rename_i e s1 b1 z1 a1 f1 ht
   split at he
   ·rename_i k sz byt z ag ef hte
    split at he
    ·rename_i vs hvs
     cases hc':(aO 0 parts.toList&&(Nat.beq vs.length len&&(aM sz vs&&(bY vs&&(Nat.blt 0 sz&&(Nat.beq z.cells.length sz&&Nat.ble (len*sz) 16777216))))))with
     | false=>rw[hc']at he;simp at he
     | true=>
      rw[hc']at he
      simp only[cond_true,Option.some.injEq,Prod.mk.injEq]at he
      obtain⟨rfl,rfl⟩:=he
      simp only[Bool.and_eq_true]at hc'
      obtain⟨c1,c2,c3,_,c4,c5,c6⟩:=hc'
      have hV:=allVals_VRs (G:=G) (w:=w) (ρ:=a.eval) hvs fun x hx u hu=>hv x (by simpa[Op.operands]using hx) u hu
      obtain⟨C,h1,h2,h3⟩:=buildSlice_run hT I ht hte hV c1 (bV.1 c2) c3 (cR.1 c4) (bV.1 c5) (Nat.le_of_ble_eq_true c6)
      have hlm:len≤maxLen:=by
       have:=Nat.le_of_ble_eq_true c6
       have:=Nat.le_mul_of_pos_right len (cR.1 c4)
       simp only[maxLen];omega
      refine⟨_,.cells C e,_,?_,addRow_R I id hid hr hc hg (cR.1 c4) (Nat.le_refl _) hlm h3 ?_,.rs id len w.heap.size len true (Nat.le_refl _) ⟨len,_,by simp[Gh.addRow],Nat.le_refl _,fun _=>⟨len,rfl,fun _=>rfl⟩⟩⟩
      ·have e:(parts.map fun (i,x)=>(i,a.eval x))=(parts.toList.map fun x=>(x.1,a.eval x.2)).toArray:=by apply Array.ext';simp
       rw[e]
       simp only[Sem.run_bind,h1,Result.andThen_ok,Sem.run_pure]
      ·rw[←h3,←Array.length_toList,List.take_length]
       exact h2
    ·simp at he
   ·simp at he
  ·simp at he
 case makeSlice t l c=>
  split at he
  ·rename_i e s1 b1 z1 a1 f1 ht
   split at he
   ·rename_i k sz byt z ag ef hte
    split at he
    ·rename_i kl n kc m hl hlc
     cases hc':(Nat.beq n m&&(Nat.blt 0 sz&&(Nat.blt 0 byt&&(Nat.beq z.cells.length sz&&Nat.ble (n*byt) 140737488355328))))with
     | false=>rw[hc']at he;simp at he
     | true=>
      rw[hc']at he
      simp only[cond_true,Option.some.injEq,Prod.mk.injEq]at he
      obtain⟨rfl,rfl⟩:=he
      simp only[Bool.and_eq_true]at hc'
      obtain⟨c1,c2,c3,c4,c5⟩:=hc'
      have c1:=bV.1 c1
      subst c1
      have hsz:=cR.1 c2
      have hby:=cR.1 c3
      have hzl:=bV.1 c4
      have hle:=Nat.le_of_ble_eq_true c5
      have hlm:n≤maxLen:=by
       have:=Nat.le_mul_of_pos_right n hby
       simp only[maxLen];omega
      obtain⟨_,d1,_,u1,kk1,_⟩:=bM (hT _ _ ht)
      have:=dP kk1
      subst this
      obtain⟨inf,d3,g1,g2,_,g3,g4,_⟩:=bM (hT _ _ hte)
      simp only at g3 g4
      obtain⟨inf',Z,g5,g6,g7⟩:=zero_VR (G:=G) (w:=w) hT hte rfl
      rw[g1]at g5
      simp only[Option.some.injEq]at g5
      subst g5
      have hL:=hv l (by simp[Op.operands]) _ hl
      have hC:=hv c (by simp[Op.operands]) _ hlc
      generalize a.eval l=L at *
      generalize a.eval c=C at *
      cases hL
      cases hC
      have hrun:=run_make (P:=P) w t e inf Z u1 g1 g6 kl kc (Int.ofNat n) (Int.ofNat n) (Int.natCast_nonneg _) (Int.le_refl _) (by
       rw[←g4]
       have:(byt*n:Nat)≤281474976710656:=by rw[Nat.mul_comm];omega
       have h2:((byt*n:Nat):Int)≤281474976710656:=by omega
       rwa [Int.natCast_mul]at h2) (by have:=hlm;simp only[maxLen]at this;simp only[Int.ofNat_eq_natCast];omega)
      simp only[Int.ofNat_eq_natCast,Int.toNat_natCast]at hrun
      rw[←g3]at hrun
      have hzs:Z.cells.size=sz:=by have:=g7.cells.1;simp at this;omega
      refine⟨_,.cells (madeCells Z.cells (n*sz)) e,_,lift hrun,addRow_R I id hid hr hc hg hsz (Nat.le_refl _) hlm (size_madeCells _ _) ?_,.rs id n w.heap.size n true (Nat.le_refl _) ⟨n,_,by simp[Gh.addRow],Nat.le_refl _,fun _=>⟨n,rfl,fun _=>rfl⟩⟩⟩
      rw[List.take_of_length_le (by simp[size_madeCells])]
      exact made_VRs hzs hsz hzl g7.cells n
    ·simp at he
   ·simp at he
  ·simp at he
theorem onlyAt_set {b:Nat} {p:Go.Obj} (hb:b<w.heap.size):OnlyAt w { w with heap:=w.heap.setIfInBounds b p } b:=
 ⟨rfl,rfl,rfl,by simp,fun c hc=>by simp[Array.getElem?_setIfInBounds_ne (fun e=>hc e.symm)]⟩
theorem upd_sim {ty:Nat→Option TyI} (hT:TyOk P ty) (I:Inv G w h) {t:Nat} {m k x:Operand} {tm:Tm} {ρ:Operand→Value} (hm:∀ u,val tm m=some u→VR G w (ρ m) u) (hk:∀ u,val tm k=some u→VR G w (ρ k) u) (hx:∀ u,val tm x=some u→VR G w (ρ x) u)
  {v:AV} {h':H} (he:evUpd ty tm h t m k x=some (v,h')):v = .tup []∧∃ w',(Instr.mapUpdate t (ρ m) (ρ k) (ρ x)).run P w = .ok () w'∧Inv G w' h'∧Ext G w h G w' h':=by
 unfold evUpd at he
 split at he
 ·rename_i kt et s1 b1 z1 a1 f1 ht
  split at he
  ·rename_i ik id key u hkt hmv hkv hxv
   split at he
   ·rename_i es hes
    cases hko:keyOk ty ik.kind key with
    | false=>rw[hko]at he;simp at he
    | true=>
     rw[hko]at he
     simp only[cond_true]at he
     obtain⟨_,dm,_,um,kkm,_⟩:=bM (hT _ _ ht)
     have:=kind_map kkm
     subst this
     obtain⟨_,dk,_,uk,kkk,_⟩:=bM (hT _ _ hkt)
     have hKD:KindD P dk key:=keyOk_spec (P:=P) hT (by rw[←kkk];exact hko)
     have hM:=hm _ hmv
     have hK:=hk _ hkv
     have hX:=hx _ hxv
     generalize ρ m=M at *
     generalize ρ k=K at *
     generalize ρ x=X at *
     cases hM
     rename_i b hr
     obtain⟨ents,clk,hb,hl,hR⟩:=I.mapAt hr hes
     have hE:EntR G w ents.toList es:=⟨by simpa using hl,fun i e k x h1 h2=>hR i e k x (by simpa using h1) h2⟩
     have hget:(getObj b).run P w = .ok (.map ents clk) w:=by simp[getObj,Sem.run,hb]
     have hset:∀ p:Go.Obj,(setObj b p).run P w = .ok () { w with heap:=w.heap.setIfInBounds b p }:=by
      intro p
      simp[setObj,Sem.run,hb]
     have hbl:b<w.heap.size:=(Array.getElem?_eq_some_iff.1 hb).1
     cases hp:mapPut key u es with
     | none=>rw[hp]at he;simp at he
     | some mm=>
      rw[hp]at he
      simp only[Option.some.injEq,Prod.mk.injEq]at he
      obtain⟨rfl,rfl⟩:=he
      refine⟨rfl,?_⟩
      rcases findKey_put I uk hKD hK hX hE hp with ⟨h4,rfl⟩|⟨j,V',e,h4,h5,h6,h7,rfl⟩
      ·refine⟨_,?_,put_inv I hr _ (onlyAt_set (p := .map (ents.push { key:=K,val:=X,born:=clk }) (clk+1)) hbl) ?_,put_ext I hr _ (onlyAt_set hbl)⟩
       ·unfold Instr.mapUpdate
        simp only[Sem.run_bind,bL um,Result.andThen_ok,hget,run_checkKey uk hK hKD,h4,hset]
       ·simp only[Array.getElem?_setIfInBounds_self_of_lt hbl]
        refine⟨by simp[hl],fun i e k x h1 h2 => ?_⟩
        rw[Array.getElem?_push]at h1
        split at h1
        ·rename_i hi
         simp only[Option.some.injEq]at h1
         subst h1
         rw[hi,hl,List.getElem?_append_right (Nat.le_refl _)]at h2
         simp at h2
         obtain⟨rfl,rfl⟩:=h2
         exact⟨hK,hX⟩
        ·have hi:=(Array.getElem?_eq_some_iff.1 h1).1
         rw[List.getElem?_append_left (by rw[←hl];exact hi)]at h2
         exact hR i e k x h1 h2
      ·have hje:ents[j]?=some e:=by simpa using h5
       refine⟨_,?_,put_inv I hr _ (onlyAt_set (p := .map (ents.modify j fun e=>{ e with key:=K,val:=X }) clk) hbl) ?_,put_ext I hr _ (onlyAt_set hbl)⟩
       ·unfold Instr.mapUpdate
        simp only[Sem.run_bind,bL um,Result.andThen_ok,hget,run_checkKey uk hK hKD,h4,Sem.run_pure,hje,Option.map_some,Option.getD_some,Instr.keyThatStays,h6,if_true,hset]
       ·simp only[Array.getElem?_setIfInBounds_self_of_lt hbl]
        refine⟨by simp[hl],fun i e' k x h1 h2 => ?_⟩
        rw[Array.getElem?_modify]at h1
        by_cases hij:j=i
        ·subst hij
         rw[if_pos rfl,hje]at h1
         simp only[Option.map_some,Option.some.injEq]at h1
         subst h1
         rw[List.getElem?_set_self (by exact h7)]at h2
         simp only[Option.some.injEq,Prod.mk.injEq]at h2
         obtain⟨rfl,rfl⟩:=h2
         exact⟨hK,hX⟩
        ·rw[if_neg hij]at h1
         rw[List.getElem?_set_ne hij]at h2
         exact hR i e' k x h1 h2
   ·simp at he
  ·simp at he
 ·simp at he
theorem act_sim {ty:Nat→Option TyI} (hT:TyOk P ty) {call:fO} (hC:CallOk P call):ActOk P ty call:=by
 intro G w h tm a o v h' I hv he K Q hK
 have value:∀ {V:Value} {G':Gh} {w':World},(execOp a.eval o).run P w = .ok (.value V) w'→Inv G' w' h'→Ext G w h G' w' h'→VR G' w' V v→o.wp P a w K Q:=by
  intro V G' w' h1 h2 h3 h4
  unfold Oper.wp
  rw[h1]
  exact hK G' w' V h2 h3 h4
 have skip:∀ {w':World},v = .tup []→(execOp a.eval o).run P w = .ok .skip w'→Inv G w' h'→Ext G w h G w' h'→o.wp P a w K Q:=by
  intro w' hvt h1 h2 h3
  unfold Oper.wp
  rw[h1]
  exact hK G w' undef h2 h3 (by rw[hvt];exact undef_VR _ _)
 unfold bA at he
 split at he
 ·rename_i f args ats ho
  rw[ho]at hv
  split at he
  ·rename_i g first cap vs hf hvs
   have hF:=hv f (by simp[Op.operands,Call.operands]) _ hf
   have hA:=allVals_VRs (G:=G) (w:=w) (ρ:=a.eval) hvs fun x hx u hu=>hv x (by simp[Op.operands,Call.operands]at hx ⊢;exact .inr hx) u hu
   obtain⟨⟨fn,q1,q2,q3⟩,q4⟩:=hC _ _ _ _ _ he
   generalize hz:a.eval f=z at *
   cases hF
   rename_i A B hA1 hA2 hB1 hB2
   have hargs:VRs G w (A++args.map a.eval++B).toList (first++vs++cap):=by
    have r1:VRs G w A.toList first:=⟨by simpa using hA1,fun i u x hu hx=>hA2 i u x (by simpa using hu) hx⟩
    have r2:VRs G w B.toList cap:=⟨by simpa using hB1,fun i u x hu hx=>hB2 i u x (by simpa using hu) hx⟩
    have r3:VRs G w (args.map a.eval).toList vs:=by simpa using hA
    simpa using (r1.append r3).append r2
   have hcall:=q4 G w _ I hargs
   unfold Oper.wp execOp
   simp only[ho,resolve,hz,Deferred.ofValue,Sem.run_bind,Sem.run_pure,Result.andThen_ok,invoke,callFunc,run_program,q1,q2,q3,Bool.false_eq_true,if_false]
   refine Calls.mono hcall fun e w' hp => ?_
   obtain⟨G',V,rfl,h1,h2,h3⟩:=hp
   exact hK G' w' V h2 h3 h1
  ·simp at he
 ·unfold bT at he
  cases hk:aL o.op with
  | pure=>
   rw[hk]at he
   simp only at he
   cases hp:aN ty tm o.op with
   | none=>rw[hp]at he;simp at he
   | some u=>
    rw[hp]at he
    simp only[Option.some.injEq,Prod.mk.injEq]at he
    obtain⟨rfl,rfl⟩:=he
    obtain⟨V,w',h1,h2,h3,h4⟩:=pure_sim hT I hk hv hp
    exact value h1 h2 h3 h4
  | read=>
   rw[hk]at he
   simp only at he
   cases hp:aQ ty tm h o.op with
   | none=>rw[hp]at he;simp at he
   | some u=>
    rw[hp]at he
    simp only[Option.some.injEq,Prod.mk.injEq]at he
    obtain⟨rfl,rfl⟩:=he
    obtain⟨V,h1,h2⟩:=read_sim hT I hv hp
    exact value h1 I (Ext.refl G w _) h2
  | new=>
   rw[hk]at he
   simp only at he
   cases hp:bX ty tm o.op with
   | none=>rw[hp]at he;simp at he
   | some q=>
    obtain⟨ob,f⟩:=q
    rw[hp]at he
    simp only[Option.some.injEq,Prod.mk.injEq]at he
    obtain⟨rfl,rfl⟩:=he
    obtain⟨f1,f2,f3⟩:=I.fresh
    obtain⟨V,p,G',h1,h2,h3⟩:=new_sim hT G w (h.new ob) tm a o ob f h.nx (new_inv I ob) hk hp hv (Nat.lt_succ_self _) f1 f2 (T.bO _ _ _)
    exact value h1 h2.inv (h2.ext h (by show h.nx≤h.nx+1;omega) (fun j hj _ _=>by omega) (fun j hj=>T.aD _ _ (by omega))) h3
  | write=>
   rw[hk]at he
   simp only at he
   unfold execOp at value skip
   cases ho:o.op<;>rw[ho]at hk hv he<;>simp only[bF,reduceCtorEq]at he<;>simp only[ho]at value skip
   case store t x y=>
    split at he
    ·rename_i i id off u hti hx hy
     split at he
     ·rename_i cs hcs
      cases hc:(Nat.beq u.cells.length i.sz&&(Nat.ble (off+i.sz) cs.length&&bB u.cells))with
      | false=>rw[hc]at he;simp at he
      | true=>
       rw[hc]at he
       simp only[cond_true,Option.some.injEq,Prod.mk.injEq]at he
       obtain⟨rfl,rfl⟩:=he
       simp only[Bool.and_eq_true]at hc
       obtain⟨inf,d,h1,h2,_,h3,_⟩:=bM (hT _ _ hti)
       have hX:=hv x (by simp[Op.operands]) _ hx
       have hY:=hv y (by simp[Op.operands]) _ hy
       generalize a.eval x=X at *
       generalize a.eval y=Y at *
       cases hX
       rename_i b hr
       obtain⟨w',k1,k2,k3⟩:=store_sim I h1 hr hcs hY (by rw[bV.1 hc.1,h3]) (by rw[←h3];exact Nat.le_of_ble_eq_true hc.2.1) hc.2.2
       exact skip rfl (by simp only[Sem.run_bind,k1,Result.andThen_ok,Sem.run_pure]) k2 k3
     ·simp at he
    ·rename_i i id len off u hti hx hy
     split at he
     ·rename_i n e s cs hcs
      cases hc:(Nat.beq n len&&(Nat.beq u.cells.length i.sz&&(Nat.ble (off+i.sz) cs.length&&bB u.cells)))with
      | false=>rw[hc]at he;simp at he
      | true=>
       rw[hc]at he
       simp only[cond_true,Option.some.injEq,Prod.mk.injEq]at he
       obtain⟨rfl,rfl⟩:=he
       simp only[Bool.and_eq_true]at hc
       have:=bV.1 hc.1
       subst this
       obtain⟨inf,d,h1,h2,_,h3,_⟩:=bM (hT _ _ hti)
       have hX:=hv x (by simp[Op.operands]) _ hx
       have hY:=hv y (by simp[Op.operands]) _ hy
       generalize a.eval x=X at *
       generalize a.eval y=Y at *
       cases hX
       rename_i b hr
       obtain⟨w',k1,k2,k3⟩:=store_row I h1 hr hcs hY (by rw[bV.1 hc.2.1,h3]) (by rw[←h3];exact Nat.le_of_ble_eq_true hc.2.2.1) hc.2.2.2
       exact skip rfl (by simp only[Sem.run_bind,k1,Result.andThen_ok,Sem.run_pure]) k2 k3
     ·simp at he
    ·simp at he
   case mapUpdate t m k x=>
    obtain⟨rfl,w',k1,k2,k3⟩:=upd_sim hT I (hv m (by simp[Op.operands])) (hv k (by simp[Op.operands])) (hv x (by simp[Op.operands])) he
    exact skip rfl (by simp only[Sem.run_bind,k1,Result.andThen_ok,Sem.run_pure]) k2 k3
   case insert t m k x=>
    obtain⟨rfl,w',k1,k2,k3⟩:=upd_sim hT I (hv m (by simp[Op.operands])) (hv k (by simp[Op.operands])) (hv x (by simp[Op.operands])) he
    exact skip rfl (by simp only[Sem.run_bind,k1,Result.andThen_ok,Sem.run_pure]) k2 k3
   case call c=>
    obtain⟨cal,args,ats⟩:=c
    simp only at he
    split at he
    ·split at he
     ·rename_i t u x y hat hvs
      have hA:=allVals_VRs (G:=G) (w:=w) (ρ:=a.eval) hvs fun y hy u hu=>hv y (by simp[Op.operands,Call.operands]at hy ⊢;exact hy) u hu
      obtain⟨X,A',hA1,hX,hA2⟩:=hA.uncons
      obtain⟨Y,A'',hA3,hY,hA4⟩:=hA2.uncons
      have hA5:A''=[]:=List.eq_nil_of_length_eq_zero (by rw[hA4.1];rfl)
      subst hA5
      subst hA3
      have hargs:args.map a.eval = #[X,Y]:=by
       apply Array.ext'
       simpa using hA1
      have hats:ats = #[t,u]:=by apply Array.ext';simpa using hat
      subst hats
      split at he
      ·rename_i e s1 b1 z1 a1 f1 e' s2 b2 z2 a2 f2 ht hu
       split at he
       ·rename_i kd sz byt z ag ef hte
        cases hzl:Nat.beq z.cells.length sz with
        | false=>rw[hzl]at he;simp at he
        | true=>
         rw[hzl]at he
         simp only[cond_true]at he
         have fin:∀ {V:Value} {G':Gh} {w':World},(Builtin.append_ #[t,u] o.type #[X,Y]).run P w = .ok V w'→Inv G' w' h'→Ext G w h G' w' h'→VR G' w' V v→o.wp P a w K Q:=fun k1 k2 k3 k4=>by
          refine value ?_ k2 k3 k4
          simp only[resolve,Sem.run_bind,Sem.run_pure,Result.andThen_ok,invoke,builtin,hargs,k1]
         cases hmt:MT.mt t with
         | true=>
          rw[hmt]at he
          simp only[cond_true]at he
          obtain⟨V,G',w',k1,k2,k3,k4⟩:=appR_sim hT I ht hu hte (bV.1 hzl) hX hY he o.type
          exact fin k1 k2 k3 k4
         | false=>
          rw[hmt]at he
          simp only[cond_false]at he
          split at he
          ·rename_i oy ys
           obtain⟨V,G',w',k1,k2,k3,k4⟩:=append_sim hT I ht hu hte (bV.1 hzl) hX hY he o.type
           exact fin k1 k2 k3 k4
          ·simp at he
       ·simp at he
      ·rename_i e s1 b1 z1 a1 f1 s2 b2 z2 a2 f2 ht hu
       split at he
       ·rename_i kd sz byt z ag ef hte
        cases hzl:(Nat.beq z.cells.length sz&&(Nat.beq sz 1 && !MT.mt t))with
        | false=>rw[hzl]at he;simp at he
        | true=>
         rw[hzl]at he
         simp only[cond_true]at he
         simp only[Bool.and_eq_true]at hzl
         split at he
         ·rename_i ys
          obtain⟨V,G',w',k1,k2,k3,k4⟩:=append_str_sim hT I ht hu hte (bV.1 hzl.1) (bV.1 hzl.2.1) hX hY he o.type
          refine value ?_ k2 k3 k4
          simp only[resolve,Sem.run_bind,Sem.run_pure,Result.andThen_ok,invoke,builtin,hargs,k1]
         ·simp at he
       ·simp at he
      ·simp at he
     ·simp at he
    ·simp at he
end
end Go.Ev
namespace Go.Ev
variable [Inhabited KA0] [MT]
structure PlanP (ops:Array Oper) (pl:List PE) (m:T Nat):Prop where
 pair:∀ A p B,pl=A++p::B→∀ q∈B,pairOk ops m p q=true∧q.i≠p.i
 self:∀ p∈pl,selfOk ops p=true
 topo:∀ A p B,pl=A++p::B→∀ d∈depsOf ops p.i,∃ q∈A,q.i=d
 cover:∀ k,k<ops.size→∃ p∈pl,p.i=k
 range:∀ p∈pl,p.i<ops.size
theorem pairsOk_spec {ops:Array Oper} {m:T Nat}:∀ {pl:List PE},pairsOk ops m pl=true →
  (∀ A p B,pl=A++p::B→∀ q∈B,pairOk ops m p q=true∧q.i≠p.i)∧∀ p∈pl,selfOk ops p=true
 | [],_=>⟨fun A p B h=>by simp at h,fun p hp=>by simp at hp⟩
 | x::r,h=>by
  simp only[pairsOk,Bool.and_eq_true,List.all_eq_true,Bool.not_eq_true',List.any_eq_false]at h
  obtain⟨h1,h2,h3,h4⟩:=h
  obtain⟨k1,k2⟩:=pairsOk_spec h4
  refine⟨fun A p B e q hq => ?_,fun p hp => ?_⟩
  ·cases A with
   | nil=>
    simp only[List.nil_append,List.cons.injEq]at e
    obtain⟨rfl,rfl⟩:=e
    exact⟨h2 q hq,fun he=>h3 q hq (bV.2 he)⟩
   | cons a A=>
    simp only[List.cons_append,List.cons.injEq]at e
    exact k1 A p B e.2 q hq
  ·rcases List.mem_cons.1 hp with rfl|hp
   ·exact h1
   ·exact k2 p hp
theorem topoOk_spec {ops:Array Oper}:∀ {pl:List PE} {seen:List Nat},topoOk ops seen pl=true →
  ∀ A p B,pl=A++p::B→∀ d∈depsOf ops p.i,d∈seen∨∃ q∈A,q.i=d
 | [],_,_,A,p,B,e,_,_=>by simp at e
 | x::r,seen,h,A,p,B,e,d,hd=>by
  simp only[topoOk,Bool.and_eq_true,List.all_eq_true,List.contains_iff_mem]at h
  cases A with
  | nil=>
   simp only[List.nil_append,List.cons.injEq]at e
   obtain⟨rfl,rfl⟩:=e
   exact .inl (h.1 d hd)
  | cons a A=>
   simp only[List.cons_append,List.cons.injEq]at e
   obtain⟨rfl,e⟩:=e
   rcases topoOk_spec h.2 A p B e d hd with h1|⟨q,hq,h1⟩
   ·rcases List.mem_cons.1 h1 with rfl|h1
    ·exact .inr ⟨_,by simp,rfl⟩
    ·exact .inl h1
   ·exact .inr ⟨q,by simp[hq],h1⟩
theorem planOk_spec {ops:Array Oper} {pl:List PE} (h:planOk ops pl=true):PlanP ops pl (preM ops pl .e):=by
 simp only[planOk,Bool.and_eq_true,List.all_eq_true,List.any_eq_true,List.mem_range]at h
 obtain⟨h1,h2,h3,h4,h5⟩:=h
 obtain⟨k1,k2⟩:=pairsOk_spec h2
 refine⟨k1,k2,fun A p B e d hd => ?_,fun k hk => ?_,fun p hp=>cR.1 (h4 p hp)⟩
 ·rcases topoOk_spec h1 A p B e d hd with h|h
  ·simp at h
  ·exact h
 ·obtain⟨p,hp,e⟩:=h3 k hk
  exact⟨p,hp,bV.1 e⟩
theorem dstIn_no {d:Nat} {l:List Nat} (h:dstIn (some d) l=false):d ∉ l:=by
 intro hm
 simp only[dstIn]at h
 rw[List.contains_iff_mem.2 hm]at h
 cases h
theorem looks_operand {ops:Array Oper} {i:Nat} {o:Oper} (hi:ops[i]?=some o) {t:Nat} (h:Operand.tmp t∈o.op.operands):t∈looks ops i:=by
 simp only[looks,hi,Oper.looksAt,List.mem_append,List.mem_filterMap]
 exact .inl ⟨.tmp t,by simpa using h,rfl⟩
theorem looks_guard {ops:Array Oper} {i:Nat} {o:Oper} (hi:ops[i]?=some o) {j:Nat} {want:Bool} (hg:o.guard=some (j,want)) {d:Nat} (hd:(ops[j]?).bind (·.dst)=some d):d∈looks ops i:=by
 simp only[looks,hi,Oper.looksAt,List.mem_append]
 right
 simp[hg,hd]
theorem wantedA_set {ops:Array Oper} {i:Nat} {o:Oper} (hi:ops[i]?=some o) {tm tm':Tm} (h:∀ t∈looks ops i,tm'.get t=tm.get t):aG ops tm' o=aG ops tm o:=by
 unfold aG
 cases hg:o.guard with
 | none=>rfl
 | some p=>
  obtain⟨j,want⟩:=p
  simp only
  cases hd:(ops[j]?).bind (·.dst)with
  | none=>rfl
  | some d=>simp only;rw[h d (looks_guard hi hg hd)]
theorem val_set {ops:Array Oper} {i:Nat} {o:Oper} (hi:ops[i]?=some o) {tm tm':Tm} (h:∀ t∈looks ops i,tm'.get t=tm.get t):∀ x∈o.op.operands,val tm' x=val tm x:=by
 intro x hx
 cases x with
 | tmp t=>exact h t (looks_operand hi hx)
 | _=>rfl
theorem putTm_get {n:Nat} {dst:Option Nat} {v:AV} {tm tm':Tm} (h:aZ n dst v tm=some tm'):(∀ t,dst≠some t→tm'.get t=tm.get t)∧∀ d,dst=some d→d<n∧tm'.get d=some v:=by
 cases dst with
 | none=>simp only[aZ,Option.some.injEq]at h;subst h;exact⟨fun t _=>rfl,fun d hd=>by cases hd⟩
 | some d=>
  simp only[aZ]at h
  cases hd:Nat.blt d n with
  | false=>rw[hd]at h;simp at h
  | true=>
   rw[hd]at h
   simp only[cond_true,Option.some.injEq]at h
   subst h
   refine⟨fun t ht=>T.aD _ _ (fun e=>ht (by rw[e])),fun e he => ?_⟩
   simp only[Option.some.injEq]at he
   subst he
   exact⟨cR.1 hd,T.bO _ _ _⟩
theorem PdOk.step {ty:Nat→Option TyI} {ops:Array Oper} {n:Nat} {tm tm':Tm} {h h':H} {p:Pd} (hp:PdOk ty ops n tm h p) (hl:∀ t∈looks ops p.i,tm'.get t=tm.get t)
  (hd:∀ d,dstOf ops p.i=some d→tm'.get d=tm.get d) (hh:h'=h∨(∃ ob,h'=h.new ob)∧∀ id q,h.t.get id=some q→id<h.nx):PdOk ty ops n tm' h' p:=by
 obtain⟨o,v,h1,h2,h3,h4⟩:=hp
 have hw:=wantedA_set h1 hl
 have hv:=val_set h1 hl
 refine⟨o,v,h1,h2,fun d e => ?_,?_⟩
 ·obtain⟨a,b⟩:=h3 d e
  exact⟨a,by rw[hd d (by simp[dstOf,h1,e])];exact b⟩
 ·rcases h4 with ⟨a,b,c⟩|⟨a,b,c,e⟩|⟨id,obj,vOf,a,b,c,d,e,f,g⟩
  ·exact .inl ⟨a,by rw[hw];exact b,c⟩
  ·refine .inr (.inl ⟨a,by rw[hw];exact b,c,?_⟩)
   rw[evOp_congr h2 hv]
   rcases hh with rfl|⟨⟨ob,rfl⟩,wf⟩
   ·exact e
   ·cases hk:aL o.op with
    | pure=>exact(pure_any hk e).2 _
    | read=>exact(read_same hk e).2 ob wf
    | new=>simp[allocB,hk]at c
    | write=>simp[quietB,hk]at h2
  ·refine .inr (.inr ⟨id,obj,vOf,a,by rw[hw];exact b,c,?_,?_,f,by rw[evNew_congr hv];exact g⟩)
   ·rcases hh with rfl|⟨⟨ob,rfl⟩,wf⟩
    ·exact d
    ·show id<h.nx+1;omega
   ·rcases hh with rfl|⟨⟨ob,rfl⟩,wf⟩
    ·exact e
    ·exact new_get wf e
theorem PdOk.eff {ty:Nat→Option TyI} {ops:Array Oper} {n:Nat} {tm tm':Tm} {h h':H} {p:Pd} (hp:PdOk ty ops n tm h p) (hl:∀ t∈looks ops p.i,tm'.get t=tm.get t)
  (hd:∀ d,dstOf ops p.i=some d→tm'.get d=tm.get d) (hnx:h.nx≤h'.nx) (hid:∀ id,p.id=some id→h'.t.get id=h.t.get id)
  (hr:opB readB ops p.i=true→recheck ty ops tm' h' [p.i]=true):PdOk ty ops n tm' h' p:=by
 obtain⟨o,v,h1,h2,h3,h4⟩:=hp
 have hw:=wantedA_set h1 hl
 have hv:=val_set h1 hl
 refine⟨o,v,h1,h2,fun d e => ?_,?_⟩
 ·obtain⟨a,b⟩:=h3 d e
  exact⟨a,by rw[hd d (by simp[dstOf,h1,e])];exact b⟩
 ·rcases h4 with ⟨a,b,c⟩|⟨a,b,c,e⟩|⟨id,obj,vOf,a,b,c,d,e,f,g⟩
  ·exact .inl ⟨a,by rw[hw];exact b,c⟩
  ·refine .inr (.inl ⟨a,by rw[hw];exact b,c,?_⟩)
   cases hk:aL o.op with
   | pure=>rw[evOp_congr h2 hv];exact(pure_any hk e).2 _
   | read=>
    have:=hr (by simp[opB,h1,readB,hk])
    simp only[recheck,h1,hw,b,Bool.and_true]at this
    cases hdst:o.dst with
    | none=>rw[hdst]at this;simp at this
    | some d=>
     rw[hdst]at this
     simp only at this
     have hg:tm'.get d=some v:=by rw[hd d (by simp[dstOf,h1,hdst])];exact(h3 d hdst).2
     rw[hg]at this
     cases hev:bT ty tm' h' o.op with
     | none=>rw[hev]at this;simp at this
     | some q=>
      obtain⟨v',h''⟩:=q
      rw[hev]at this
      simp only at this
      have e1:=AV.beq_eq _ _ this
      have e2:=(read_same hk hev).1
      rw[e1,e2]
   | new=>simp[allocB,hk]at c
   | write=>simp[quietB,hk]at h2
  ·exact .inr (.inr ⟨id,obj,vOf,a,by rw[hw];exact b,c,by omega,by rw[hid id a];exact e,f,by rw[evNew_congr hv];exact g⟩)
theorem recheck_mem {ty:Nat→Option TyI} {ops:Array Oper} {tm:Tm} {h:H}:∀ {l:List Nat},recheck ty ops tm h l=true→∀ j∈l,recheck ty ops tm h [j]=true
 | [],_,j,hj=>by simp at hj
 | x::l,hr,j,hj=>by
  have e:recheck ty ops tm h (x::l)=(recheck ty ops tm h [x]&&recheck ty ops tm h l):=by simp only[recheck,Bool.and_true]
  rw[e,Bool.and_eq_true]at hr
  rcases List.mem_cons.1 hj with rfl|hj
  ·exact hr.1
  ·exact recheck_mem hr.2 j hj
theorem quiet_act {call:fO} {ty:Nat→Option TyI} {tm:Tm} {h:H} {o:Op} (hq:quietB o=true):bA call ty tm h o=bT ty tm h o:=by
 unfold bA
 split
 ·rename_i f args ats
  simp[quietB,aL]at hq
 ·rfl
structure DR (ty:Nat→Option TyI) (n nx0:Nat) (ops:Array Oper) (G:Gh) (w:World) (h:H) (tm:Tm) (a:Act) (listed:Array Bool) (done:List PE) (U:List Pd):Prop where
 inv:Inv G w h
 sz:a.tmps.size=n
 lsz:listed.size=ops.size
 down:Down ops listed
 vals:∀ t v,tm.get t=some v→(∀ u∈U,dstOf ops u.i≠some t)→VR G w (a.tmps.getD t undef) v
 lst:∀ i,listed.getD i false=true↔(∃ p∈done,p.i=i)∧∀ u∈U,u.i≠i
 pds:∀ u∈U,PdOk ty ops n tm h u∧∃ p∈done,p.i=u.i∧p.eff=false
 ids:∀ u∈U,∀ id,u.id=some id→G.ρ id=none∧G.cv id=none
 nxl:nx0≤h.nx∧∀ u∈U,∀ id,u.id=some id→nx0≤id
 idn:∀ u∈U,∀ v∈U,u.i≠v.i→∀ id,u.id=some id→v.id≠some id
theorem evOne_some {call:fO} {ty:Nat→Option TyI} {n:Nat} {ops:Array Oper} {o:Oper} {tm tm':Tm} {h h':H} (he:aX call ty n ops o tm h=some (tm',h')) :
  (aG ops tm o=some false∧aZ n o.dst (.tup []) tm=some tm'∧h'=h)∨(∃ v,aG ops tm o=some true∧bA call ty tm h o.op=some (v,h')∧aZ n o.dst v tm=some tm'):=by
 unfold aX at he
 cases hw:aG ops tm o with
 | none=>rw[hw]at he;simp at he
 | some b=>
  rw[hw]at he
  cases b with
  | false=>
   simp only at he
   cases hp:aZ n o.dst (.tup []) tm with
   | none=>rw[hp]at he;simp at he
   | some t1=>
    rw[hp]at he
    simp only[Option.some.injEq,Prod.mk.injEq]at he
    obtain⟨rfl,rfl⟩:=he
    exact .inl ⟨rfl,rfl,rfl⟩
  | true=>
   simp only at he
   cases hv:bA call ty tm h o.op with
   | none=>rw[hv]at he;simp at he
   | some q=>
    obtain⟨v,h1⟩:=q
    rw[hv]at he
    simp only at he
    cases hp:aZ n o.dst v tm with
    | none=>rw[hp]at he;simp at he
    | some t1=>
     rw[hp]at he
     simp only[Option.some.injEq,Prod.mk.injEq]at he
     obtain⟨rfl,rfl⟩:=he
     exact .inr ⟨v,rfl,rfl,hp⟩
section
variable {P:Program} {ty:Nat→Option TyI} {call:fO} {n nx0:Nat} {ops:Array Oper} {pl:List PE} {m:T Nat}
theorem DR.absorb (PP:PlanP ops pl m) {G:Gh} {w:World} {h:H} {tm:Tm} {a:Act} {listed:Array Bool} {done r:List PE} {U:List Pd} {q:PE} (hpl:pl=done++q::r)
  (D:DR ty n nx0 ops G w h tm a listed done U) (hq:q.eff=false) {res:Tm × H} (he:bI call ty n ops (q::r) tm h=some res) :
  ∃ tm' h' U',DR ty n nx0 ops G w h' tm' a listed (done++[q]) U'∧bI call ty n ops r tm' h'=some res∧h.nx≤h'.nx∧∀ id,id<h.nx→h'.t.get id=h.t.get id:=by
 simp only[bI]at he
 cases ho:ops[q.i]? with
 | none=>rw[ho]at he;simp at he
 | some o=>
  rw[ho]at he
  simp only at he
  cases h1:aX call ty n ops o tm h with
  | none=>rw[h1]at he;simp at he
  | some p=>
   obtain⟨tm1,g1⟩:=p
   rw[h1]at he
   simp only at he
   cases hrc:recheck ty ops tm1 g1 q.chk with
   | false=>rw[hrc]at he;simp at he
   | true=>
    rw[hrc]at he
    simp only[cond_true]at he
    have hself:=PP.self q (by rw[hpl];simp)
    simp only[selfOk,hq,Bool.false_or,Bool.and_eq_true,Bool.not_eq_true']at hself
    obtain⟨hqt,hown⟩:=hself
    have hqt':quietB o.op=true:=by simpa[opB,ho]using hqt
    have hdq:dstOf ops q.i=o.dst:=by simp[dstOf,ho]
    have hold:∀ u∈U,(∀ t∈looks ops u.i,o.dst≠some t)∧∀ d,dstOf ops u.i=some d→o.dst≠some d:=by
     intro u hu
     obtain⟨_,p,hp,hpi,hpe⟩:=D.pds u hu
     obtain⟨A,B,hAB⟩:=List.append_of_mem hp
     have hpr:=(PP.pair A p (B++q::r) (by rw[hpl,hAB];simp) q (by simp)).1
     simp only[pairOk,Bool.and_eq_true,Bool.or_eq_true,Bool.not_eq_true',hq,Bool.false_eq_true,false_and,or_false,Bool.or_eq_false_iff]at hpr
     obtain⟨_,_,⟨c1,c2⟩,_⟩:=hpr
     rw[hdq,hpi]at c1 c2
     refine⟨fun t ht e => ?_,fun d hd e => ?_⟩
     ·rw[e]at c1;exact dstIn_no c1 ht
     ·rw[e,hd]at c2;simp[dstSame]at c2
    have hnd:∀ p∈done,p.i≠q.i:=by
     intro p hp e
     obtain⟨A,B,hAB⟩:=List.append_of_mem hp
     exact(PP.pair A p (B++q::r) (by rw[hpl,hAB];simp) q (by simp)).2 e.symm
    obtain⟨v,uid,hput,hh,hpd,hids⟩:∃ (v:AV) (uid:Option Nat),aZ n o.dst v tm=some tm1∧(g1=h∨(∃ ob,g1=h.new ob)∧∀ id q,h.t.get id=some q→id<h.nx) ∧
      ((uid=none∧aG ops tm o=some false∧v = .tup [])∨(uid=none∧aG ops tm o=some true∧allocB o.op=false∧g1=h∧bT ty tm h o.op=some (v,h)) ∨
       (∃ (obj:Obj) (vOf:Nat→AV),uid=some h.nx∧aG ops tm o=some true∧aL o.op = .new∧g1=h.new obj∧v=vOf h.nx∧bX ty tm o.op=some (obj,vOf)))∧(∀ id,uid=some id→id=h.nx):=by
     rcases evOne_some h1 with ⟨a1,a2,rfl⟩|⟨v,a1,a2,a3⟩
     ·exact⟨.tup [],none,a2,.inl rfl,.inl ⟨rfl,a1,rfl⟩,fun id e=>by cases e⟩
     ·rw[quiet_act hqt']at a2
      cases hk:aL o.op with
      | pure=>
       have e:=(pure_any hk a2).1
       subst e
       exact⟨v,none,a3,.inl rfl,.inr (.inl ⟨rfl,a1,by simp[allocB,hk],rfl,a2⟩),fun id e=>by cases e⟩
      | read=>
       have e:=(read_same hk a2).1
       subst e
       exact⟨v,none,a3,.inl rfl,.inr (.inl ⟨rfl,a1,by simp[allocB,hk],rfl,a2⟩),fun id e=>by cases e⟩
      | new=>
       obtain⟨obj,vOf,e1,e2,e3⟩:=alloc_any hk a2
       exact⟨v,some h.nx,a3,.inr ⟨⟨obj,e1⟩,D.inv.wf⟩,.inr (.inr ⟨obj,vOf,rfl,a1,rfl,e1,e2,e3⟩),fun id e=>by simpa using e.symm⟩
      | write=>simp[quietB,hk]at hqt'
    obtain⟨g_ne,g_eq⟩:=putTm_get hput
    have hlook:∀ t∈looks ops q.i,tm1.get t=tm.get t:=by
     intro t ht
     refine g_ne t fun e => ?_
     rw[hdq,e]at hown
     exact dstIn_no hown ht
    have inv1:Inv G w g1:=by
     rcases hh with rfl|⟨⟨ob,rfl⟩,_⟩
     ·exact D.inv
     ·exact new_inv D.inv ob
    have hnx:h.nx≤g1.nx:=by
     rcases hh with rfl|⟨⟨ob,rfl⟩,_⟩
     ·exact Nat.le_refl _
     ·exact Nat.le_succ _
    refine⟨tm1,g1,⟨q.i,uid⟩::U,⟨inv1,D.sz,D.lsz,D.down,fun t u ht hne => ?_,fun i => ?_,fun u hu => ?_,fun u hu id e => ?_,⟨Nat.le_trans D.nxl.1 hnx,fun u hu id e => ?_⟩,fun u hu v' hv' hne id e => ?_⟩,he,hnx,fun id hid => ?_⟩
    ·have hqn:=hne ⟨q.i,uid⟩ (by simp)
     rw[hdq]at hqn
     rw[g_ne t hqn]at ht
     exact D.vals t u ht fun u' hu'=>hne u' (by simp[hu'])
    ·rw[D.lst i]
     constructor
     ·rintro⟨⟨p,hp,e⟩,h2⟩
      refine⟨⟨p,by simp[hp],e⟩,fun u hu => ?_⟩
      rcases List.mem_cons.1 hu with rfl|hu
      ·exact fun e2=>hnd p hp (e.trans e2.symm)
      ·exact h2 u hu
     ·rintro⟨⟨p,hp,e⟩,h2⟩
      have hqi:=h2 ⟨q.i,uid⟩ (by simp)
      rcases List.mem_append.1 hp with hp|hp
      ·exact⟨⟨p,hp,e⟩,fun u hu=>h2 u (by simp[hu])⟩
      ·simp only[List.mem_singleton]at hp
       subst hp
       exact absurd e hqi
    ·rcases List.mem_cons.1 hu with rfl|hu
     ·refine⟨?_,q,by simp,rfl,hq⟩
      have hw:=wantedA_set ho hlook
      have hvv:=val_set ho hlook
      refine⟨o,v,ho,hqt',fun d hd=>g_eq d hd,?_⟩
      rcases hpd with ⟨b1,b2,b3⟩|⟨b1,b2,b3,b4,b5⟩|⟨obj,vOf,b1,b2,b3,b4,b5,b6⟩
      ·exact .inl ⟨b1,by rw[hw];exact b2,b3⟩
      ·refine .inr (.inl ⟨b1,by rw[hw];exact b2,b3,?_⟩)
       rw[evOp_congr hqt' hvv,b4]
       exact b5
      ·refine .inr (.inr ⟨h.nx,obj,vOf,b1,by rw[hw];exact b2,b3,?_,?_,b5,by rw[evNew_congr hvv];exact b6⟩)
       ·rw[b4];exact Nat.lt_succ_self _
       ·rw[b4];exact T.bO _ _ _
     ·obtain⟨k1,p,hp,k2,k3⟩:=D.pds u hu
      obtain⟨o1,o2⟩:=hold u hu
      exact⟨k1.step (fun t ht=>g_ne t (o1 t ht)) (fun d hd=>g_ne d (o2 d hd)) hh,p,by simp[hp],k2,k3⟩
    ·rcases List.mem_cons.1 hu with rfl|hu
     ·have:=hids id e
      subst this
      obtain⟨f1,f2,_⟩:=D.inv.fresh
      exact⟨f1,f2⟩
     ·exact D.ids u hu id e
    ·rcases List.mem_cons.1 hu with rfl|hu
     ·have:=hids id e
      subst this
      exact D.nxl.1
     ·exact D.nxl.2 u hu id e
    ·have old:∀ u∈U,∀ id,u.id=some id→id<h.nx:=by
      intro u hu id e
      obtain⟨⟨o',v',_,_,_,h4⟩,_⟩:=D.pds u hu
      rcases h4 with ⟨b1,_⟩|⟨b1,_⟩|⟨id',_,_,b1,_,_,b4,_⟩
      ·rw[b1]at e;cases e
      ·rw[b1]at e;cases e
      ·rw[b1]at e
       simp only[Option.some.injEq]at e
       omega
     rcases List.mem_cons.1 hu with rfl|hu
     ·have:=hids id e
      subst this
      rcases List.mem_cons.1 hv' with rfl|hv'
      ·exact absurd rfl hne
      ·intro e2;have:=old v' hv' _ e2;omega
     ·rcases List.mem_cons.1 hv' with rfl|hv'
      ·intro e2
       have:=hids id e2
       subst this
       have:=old u hu _ e
       omega
      ·exact D.idn u hu v' hv' hne id e
    ·rcases hh with rfl|⟨⟨ob,rfl⟩,_⟩
     ·rfl
     ·exact T.aD _ _ (by omega)
end
end Go.Ev
