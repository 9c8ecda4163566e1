/- Each operation of the abstract machine is the model's: all that hang on the operands alone. -/
import Derived.Test.YtogjplcnmibnlaaGreatDoorEvN
set_option autoImplicit false
set_option linter.unusedSectionVars false
set_option linter.unusedVariables false
set_option linter.unusedSimpArgs false
namespace Go.Ev
variable [Inhabited KA0] [MT]
section
variable {P:Program} {G:Gh} {w:World} {h:H}
theorem part_sim {t:Nat} {inf:TypeInfo} {d:TypeDesc} (hi:P.info? t=some inf) (hd:P.underlying t=some d) {C:Array Value} {cs:List AV} (hC:C.size=cs.length) (h1:∀ (i:Nat) v x,C[i]?=some v→cs[i]?=some x→VR G w v x)
  {off:Nat} {v:AV} (hv:aV (isAggD d) inf.size cs off=some v):∃ V,(part t C off).run P w = .ok V w∧VR G w V v:=by
 unfold part
 simp only[Sem.run_bind,run_isAgg hd,Result.andThen_ok]
 unfold aV at hv
 cases ha:isAggD d with
 | true=>
  rw[ha]at hv
  simp only[cond_true]at hv
  cases hb:Nat.ble (off+inf.size) cs.length with
  | false=>rw[hb]at hv;simp at hv
  | true=>
   rw[hb]at hv
   have hle:=Nat.le_of_ble_eq_true hb
   simp only[cond_true,Option.some.injEq]at hv
   subst hv
   refine⟨.agg (C.extract off (off+inf.size)),by simp only[if_true,Sem.run_bind,run_sizeOf hi,Result.andThen_ok,Sem.run_pure],.agg _ _ (by simp;omega) fun i u x hu hx => ?_⟩
   rw[List.getElem?_take]at hx
   split at hx
   ·rename_i hlt
    rw[List.getElem?_drop]at hx
    rw[Array.getElem?_extract]at hu
    split at hu
    ·exact h1 (off+i) u x hu hx
    ·cases hu
   ·cases hx
 | false=>
  rw[ha]at hv
  simp only[cond_false]at hv
  have hl:=aI hv
  rw[←hC]at hl
  refine⟨C[off],?_,h1 off _ v (Array.getElem?_eq_getElem hl) hv⟩
  simp[Array.getElem?_eq_getElem hl]
theorem field_some {ty:Nat→Option TyI} (hT:TyOk P ty) {t:Nat} {fs:List (Nat × Nat × Bool)} {sz byt:Nat} {z:Option AV} {ag:Bool} {ef:Option (List (Nat × Nat))} (ht:ty t=some ⟨.st fs,sz,byt,z,ag,ef⟩) {f off fsz:Nat} {fag:Bool} (hf:fs[f]?=some (off,fsz,fag)) :
  ∃ fields fd inf d,P.underlying t=some (.struct fields)∧fields[f]?=some fd∧P.info? fd.type=some inf∧P.underlying fd.type=some d∧fd.offset=off∧inf.size=fsz∧isAggD d=fag:=by
 obtain⟨inf,d,h1,h2,hk,_⟩:=bM (hT t _ ht)
 obtain⟨fields,rfl,hfs⟩:=kind_struct hk
 obtain⟨fd,hfd,he⟩:=(all0_some hfs).2 f _ hf
 unfold fieldOf at he
 split at he
 ·rename_i i' d' e1 e2
  simp only[Option.some.injEq,Prod.mk.injEq]at he
  exact⟨fields,fd,i',d',h2,by simpa using hfd,e1,e2,he.1,he.2.1,he.2.2⟩
 ·simp at he
theorem pure_sim {ty:Nat→Option TyI} (hT:TyOk P ty) (I:Inv G w h) {o:Oper} {tm:Tm} {a:Act} (hk:aL o.op = .pure) (hv:∀ x∈o.op.operands,∀ u,val tm x=some u→VR G w (a.eval x) u)
  {v:AV} (he:aN ty tm o.op=some v):∃ V w',(execOp a.eval o).run P w = .ok (.value V) w'∧Inv G w' h∧Ext G w h G w' h∧VR G w' V v:=by
 have same:∀ {V:Value},VR G w V v→(execOp a.eval o).run P w = .ok (.value V) w→∃ V w',(execOp a.eval o).run P w = .ok (.value V) w'∧Inv G w' h∧Ext G w h G w' h∧VR G w' V v:=
  fun h1 h2=>⟨_,w,h2,I,Ext.refl G w h,h1⟩
 have lift:∀ {V:Value} {s:Sem Value},s.run P w = .ok V w→(do pure (Next.value (←s)):Sem Next).run P w = .ok (.value V) w:=by
  intro V s hs
  simp only[Sem.run_bind,hs,Result.andThen_ok,Sem.run_pure]
 unfold execOp at *
 cases ho:o.op<;>rw[ho]at hk hv he<;>simp only[aN,reduceCtorEq]at he<;>simp only[ho]at *
 case move x=>exact same (hv x (by simp[Op.operands]) v he) rfl
 case assign x=>exact same (hv x (by simp[Op.operands]) v he) rfl
 case pick c x y=>
  split at he
  ·rename_i t hc
   have hcv:=hv c (by simp[Op.operands]) _ hc
   generalize a.eval c=zc at *
   cases hcv
   cases t with
   | true=>exact same (hv x (by simp[Op.operands]) v he) (by simp[asBool])
   | false=>exact same (hv y (by simp[Op.operands]) v he) (by simp[asBool])
  ·simp at he
 case build t parts=>
  split at he
  ·rename_i fs sz byt z ag ef ht
   split at he
   ·rename_i vs hvs
    obtain⟨cs,hcs,rfl⟩:=Option.map_eq_some_iff.1 he
    have hV:=allVals_VRs (G:=G) (w:=w) (ρ:=a.eval) hvs fun x hx u hu=>hv x (by simpa[Op.operands]using hx) u hu
    obtain⟨C,h1,h2⟩:=build_sim hT ht hV hcs
    refine same h2 (lift ?_)
    have e:(parts.map fun (i,x)=>(i,a.eval x))=(parts.toList.map fun x=>(x.1,a.eval x.2)).toArray:=by apply Array.ext';simp
    rw[e]
    exact h1
   ·simp at he
  ·simp at he
 case buildSlice t len parts=>
  split at he
  ·rename_i e s1 b1 z1 a1 f1 ht
   split at he
   ·rename_i k sz byt z ag ef hte
    split at he
    ·rename_i vs hvs
     cases hc:(aO 0 parts.toList&&(Nat.beq vs.length len&&(aM sz vs&&(Nat.blt 0 sz&&(Nat.beq z.cells.length sz&&Nat.ble (len*sz) 16777216)))))with
     | false=>rw[hc]at he;simp at he
     | true=>
      rw[hc]at he
      simp only[cond_true,Option.some.injEq]at he
      subst he
      simp only[Bool.and_eq_true]at hc
      obtain⟨c1,c2,c3,c4,c5,c6⟩:=hc
      have hV:=allVals_VRs (G:=G) (w:=w) (ρ:=a.eval) hvs fun x hx u hu=>hv x (by simpa[Op.operands]using hx) u hu
      obtain⟨V,w',h1,h2,h3,h4⟩:=buildSlice_sim hT I ht hte hV c1 (bV.1 c2) c3 (cR.1 c4) (bV.1 c5) (Nat.le_of_ble_eq_true c6)
      refine⟨V,w',?_,h2,h3,h4⟩
      have e:(parts.map fun (i,x)=>(i,a.eval x))=(parts.toList.map fun x=>(x.1,a.eval x.2)).toArray:=by apply Array.ext';simp
      rw[e]
      simp only[Sem.run_bind,h1,Result.andThen_ok,Sem.run_pure]
    ·simp at he
   ·simp at he
  ·simp at he
 case nilCheck x=>
  split at he
  ·rename_i p hx
   simp only[Option.some.injEq]at he
   subst he
   have:=hv x (by simp[Op.operands]) _ hx
   generalize a.eval x=z at *
   cases this
   exact same (.ptr _ _ _ (by assumption)) rfl
  ·rename_i cs hx
   simp only[Option.some.injEq]at he
   subst he
   have:=hv x (by simp[Op.operands]) _ hx
   generalize a.eval x=z at *
   cases this
   exact same (.vp _ _ _ _ (by assumption) (by assumption)) rfl
  ·rename_i id n off hx
   simp only[Option.some.injEq]at he
   subst he
   have:=hv x (by simp[Op.operands]) _ hx
   generalize a.eval x=z at *
   cases this
   exact same (.rp _ _ _ _ (by assumption)) rfl
  ·rename_i f c d hx
   simp only[Option.some.injEq]at he
   subst he
   have:=hv x (by simp[Op.operands]) _ hx
   generalize a.eval x=z at *
   have hz:=this
   cases this
   exact same hz rfl
  ·simp at he
 case binOp op t x y u=>
  split at he
  ·rename_i p q hp hq
   cases hn:aU x y p q with
   | true=>
    rw[hn]at he
    obtain⟨V,h1,h2⟩:=evNil_sim hT (hv x (by simp[Op.operands]) _ hp) (hv y (by simp[Op.operands]) _ hq) hn he
    exact same h2 (lift h1)
   | false=>
    rw[hn]at he
    obtain⟨V,h1,h2⟩:=evBin_sim hT (hv x (by simp[Op.operands]) _ hp) (hv y (by simp[Op.operands]) _ hq) he x y
    exact same h2 (lift h1)
  ·simp at he
 case unOp op t x=>
  split at he
  ·rename_i b hx
   simp only[Option.some.injEq]at he
   subst he
   have:=hv x (by simp[Op.operands]) _ hx
   generalize a.eval x=z at *
   cases this
   exact same (.bool _) (by simp[Op.unary])
  ·rename_i k q hx
   simp only[Option.some.injEq]at he
   subst he
   have:=hv x (by simp[Op.operands]) _ hx
   generalize a.eval x=z at *
   cases this
   exact same (V := .int k (k.wrap (0-q))) (by rw[wr_eq];exact .int _ _) (by simp only[Op.unary,Op.intArith,Sem.run_bind,Sem.run_pure,Result.andThen_ok])
  ·simp at he
 case convert s d x=>
  split at he
  ·rename_i k1 s1 b1 z1 a1 f1 k2 s2 b2 z2 a2 f2 k3 q e1 e2 hx
   simp only[Option.some.injEq]at he
   subst he
   obtain⟨_,d1,_,u1,kk1,_⟩:=bM (hT _ _ e1)
   obtain⟨_,d2,_,u2,kk2,_⟩:=bM (hT _ _ e2)
   have:=kind_int kk1
   subst this
   have:=kind_int kk2
   subst this
   have:=hv x (by simp[Op.operands]) _ hx
   generalize a.eval x=z at *
   cases this
   refine same (V := .int k2 (k2.wrap q)) (by rw[wr_eq];exact .int _ _) (lift ?_)
   simp[convert,bL u1,bL u2,Conv.intToInt]
  ·rename_i s1 b1 z1 a1 f1 s2 b2 z2 a2 f2 q e1 e2 hx
   simp only[Option.some.injEq]at he
   subst he
   obtain⟨_,d1,_,u1,kk1,_⟩:=bM (hT _ _ e1)
   obtain⟨_,d2,_,u2,kk2,_⟩:=bM (hT _ _ e2)
   have:=kind_str kk1
   subst this
   have:=kind_str kk2
   subst this
   have:=hv x (by simp[Op.operands]) _ hx
   generalize a.eval x=z at *
   have hz:=this
   cases this
   refine same hz (lift ?_)
   simp[convert,bL u1,bL u2]
  ·rename_i s1 b1 z1 a1 f1 e s2 b2 z2 a2 f2 q e1 e2 hx
   split at he
   ·rename_i s3 b3 z3 a3 f3 e3
    cases hle:Nat.ble q.length 140737488355328 with
    | false=>rw[hle]at he;simp at he
    | true=>
    rw[hle]at he
    simp only[cond_true,Option.some.injEq]at he
    subst he
    obtain⟨_,d1,_,u1,kk1,_⟩:=bM (hT _ _ e1)
    obtain⟨_,d2,_,u2,kk2,_⟩:=bM (hT _ _ e2)
    obtain⟨_,d3,_,u3,kk3,_⟩:=bM (hT _ _ e3)
    have:=dP kk2
    subst this
    have:=kind_int kk3
    subst this
    have:=hv x (by simp[Op.operands]) _ hx
    generalize a.eval x=z at *
    cases this
    rename_i S
    obtain⟨V,w',g1,g2,g3,g4⟩:=strBytes_sim (P:=P) I u1 u2 u3 S
    exact⟨V,w',by simp only[Sem.run_bind,g1,Result.andThen_ok,Sem.run_pure],g2,g3,g4⟩
   ·simp at he
  ·rename_i e s1 b1 z1 a1 f1 s2 b2 z2 a2 f2 o els e1 e2 hx
   split at he
   ·rename_i s3 b3 z3 a3 f3 e3
    obtain⟨m,hm,rfl⟩:=Option.map_eq_some_iff.1 he
    obtain⟨_,d1,_,u1,kk1,_⟩:=bM (hT _ _ e1)
    obtain⟨_,d2,_,u2,kk2,_⟩:=bM (hT _ _ e2)
    obtain⟨_,d3,_,u3,kk3,_⟩:=bM (hT _ _ e3)
    have:=dP kk1
    subst this
    have:=kind_str kk2
    subst this
    have:=kind_int kk3
    subst this
    have hV:=hv x (by simp[Op.operands]) _ hx
    generalize a.eval x=z at *
    obtain⟨S,g1,g2⟩:=bytesStr_sim (P:=P) hV hm
    refine same (V := .string S) (by rw[←g2];exact .str S) (lift ?_)
    have hz:∃ A n c,z = .slice A n c:=by cases hV<;>exact⟨_,_,_,rfl⟩
    obtain⟨A,n,c,rfl⟩:=hz
    cases A<;>simp[convert,bL u1,bL u2,bL u3,g1]
   ·simp at he
  ·simp at he
 case makeInterface t x=>
  split at he
  ·simp at he
  ·rename_i i u hni ht hx
   simp only[Option.some.injEq]at he
   subst he
   obtain⟨_,d1,_,u1,kk1,_⟩:=bM (hT _ _ ht)
   refine same (.iface t _ _ (hv x (by simp[Op.operands]) _ hx)) (lift ?_)
   unfold Instr.makeInterface
   simp only[Sem.run_bind,bL u1,Result.andThen_ok]
   cases d1<;>first
    | rfl
    | skip
   rename_i ms
   exfalso
   obtain⟨kd,s1,b1,z1,a1,f1⟩:=i
   simp only[kindOf]at kk1
   subst kk1
   exact hni _ _ _ _ _ rfl
  ·simp at he
 case makeFunc fn first captured=>
  split at he
  ·rename_i f p q h1 h2
   simp only[Option.some.injEq]at he
   subst he
   have hp:=allVals_VRs (G:=G) (w:=w) (ρ:=a.eval) h1 fun x hx u hu=>hv x (by simp[Op.operands]at hx ⊢;exact .inl hx) u hu
   have hq:=allVals_VRs (G:=G) (w:=w) (ρ:=a.eval) h2 fun x hx u hu=>hv x (by simp[Op.operands]at hx ⊢;exact .inr hx) u hu
   refine same (V := .func (.func f) (first.map a.eval) (captured.map a.eval)) (.fn f _ _ p q (by have:=hp.1;simpa using this) (by have:=hq.1;simpa using this) (fun i u x hu hx=>hp.2 i u x (by simpa using hu) hx) (fun i u x hu hx=>hq.2 i u x (by simpa using hu) hx)) (lift rfl)
  ·simp at he
 case fieldAddr s x f=>
  split at he
  ·rename_i fs sz byt z ag ef ht
   split at he
   ·rename_i off fsz fag hf
    obtain⟨fields,fd,inf,d,u1,hfd,e1,e2,e3,e4,e5⟩:=field_some hT ht hf
    cases hz:Nat.beq fsz 0 with
    | true=>rw[hz]at he;simp at he
    | false=>
     rw[hz]at he
     simp only[cond_false]at he
     have hnz:¬ inf.size=0:=by rw[e4];intro e;rw[e]at hz;simp at hz
     have hrun:∀ (b q:Nat),(Instr.fieldAt s (.pointer (some ⟨b,q,none⟩)) f).run P w = .ok (.pointer (some ⟨b,q+off,none⟩)) w:=by
      intro b q
      unfold Instr.fieldAt
      simp only[Sem.run_bind,bL u1,Result.andThen_ok,hfd,Instr.sureAddr,Sem.run_pure,fieldPlace,run_sizeOf e1,hnz,if_false,addr_add,e3]
     split at he
     ·rename_i id q hx
      simp only[Option.some.injEq]at he
      subst he
      have:=hv x (by simp[Op.operands]) _ hx
      generalize a.eval x=z at *
      cases this
      exact same (.ptr _ _ _ (by assumption)) (lift (hrun _ _))
     ·rename_i cs hx
      simp only[Option.some.injEq]at he
      subst he
      have:=hv x (by simp[Op.operands]) _ hx
      generalize a.eval x=z at *
      cases this
      rename_i b q g h1 h2
      refine same (V := .pointer (some ⟨b,q+off,none⟩)) (.vp b (q+off) (cs.drop off) (fun j=>g (off+j)) (fun j hj => ?_) (fun j y hy => ?_)) (lift (hrun _ _))
      ·have:=h1 (off+j) (by simp at hj;omega)
       rw[Nat.add_assoc]
       exact this
      ·rw[List.getElem?_drop]at hy
       exact h2 _ y hy
     ·rename_i id n q hx
      simp only[Option.some.injEq]at he
      subst he
      have:=hv x (by simp[Op.operands]) _ hx
      generalize a.eval x=z at *
      cases this
      exact same (.rp _ _ _ _ (by assumption)) (lift (hrun _ _))
     ·simp at he
   ·simp at he
  ·simp at he
 case field t x f=>
  split at he
  ·rename_i fs sz byt z ag ef cs ht hx
   split at he
   ·rename_i off fsz fag hf
    obtain⟨fields,fd,inf,d,u1,hfd,e1,e2,e3,e4,e5⟩:=field_some hT ht hf
    have:=hv x (by simp[Op.operands]) _ hx
    generalize a.eval x=z at *
    cases this
    rename_i C hC h1
    obtain⟨V,k1,k2⟩:=part_sim e1 e2 hC h1 (off:=off) (v:=v) (by rw[e5,e4];exact he)
    refine same k2 (lift ?_)
    unfold Instr.field
    simp only[Sem.run_bind,bL u1,Result.andThen_ok,hfd,asAgg,Sem.run_pure,e3,k1]
   ·simp at he
  ·simp at he
 case indexAddr t x i=>
  split at he
  ·rename_i e sz byt z ag ef ht
   split at he
   ·rename_i ie o' els ki n hte hx hi
    split at he
    ·rename_i u hu
     cases hc:Nat.beq u.cells.length ie.sz with
     | false=>rw[hc]at he;simp at he
     | true=>
      rw[hc]at he
      simp only[cond_true,Option.some.injEq]at he
      subst he
      have hsz:=bV.1 hc
      obtain⟨_,d1,_,u1,kk1,_⟩:=bM (hT _ _ ht)
      have:=dP kk1
      subst this
      obtain⟨inf,d2,g1,g2,_,g3,_⟩:=bM (hT _ _ hte)
      have hX:=hv x (by simp[Op.operands]) _ hx
      have hI:=hv i (by simp[Op.operands]) _ hi
      generalize a.eval x=z1 at *
      generalize a.eval i=z2 at *
      cases hI
      cases hX with
      | sl0=>simp at hu
      | sl b off len cap s _ _ f hl hcap hs h1 h2 ho2=>
       have hn:n<len:=by rw[←hl];exact aI hu
       have hus:=hs u (List.mem_of_getElem? hu)
       refine same (V := .pointer (some ⟨b,off+n*s,none⟩)) (.vp b (off+n*s) u.cells (f n) (fun j hj=>h1 n j hn (by omega)) (fun j y hy=>h2 n j u y hu hy)) (lift ?_)
       unfold Instr.indexAt
       have hin:(0:Int)≤Int.ofNat n∧(Int.ofNat n:Int)<((len:Nat):Int):=⟨Int.natCast_nonneg _,by simp only[Int.ofNat_eq_natCast];omega⟩
       simp only[Sem.run_bind,asIntOf,Sem.run_pure,Result.andThen_ok,bL u1]
       rw[if_pos hin]
       have e3:inf.size=s:=by omega
       simp only[Sem.run_bind,run_sizeOf g1,Result.andThen_ok,Sem.run_pure,addr_add,e3]
       rfl
    ·simp at he
   ·rename_i ie id len own ki n hte hx hi
    cases hc:Nat.blt n len with
    | false=>rw[hc]at he;simp at he
    | true=>
     rw[hc]at he
     simp only[cond_true,Option.some.injEq]at he
     subst he
     have hn:=cR.1 hc
     obtain⟨_,d1,_,u1,kk1,_⟩:=bM (hT _ _ ht)
     have:=dP kk1
     subst this
     obtain⟨inf,d2,g1,g2,_,g3,_⟩:=bM (hT _ _ hte)
     have hX:=hv x (by simp[Op.operands]) _ hx
     have hI:=hv i (by simp[Op.operands]) _ hi
     generalize a.eval x=z1 at *
     generalize a.eval i=z2 at *
     cases hI
     cases hX with
     | rs _ _ b cap _ hcap hr=>
      refine same (V := .pointer (some ⟨b,n*ie.sz,none⟩)) (.rp _ _ _ b (hr.imp fun _ _=>trivial)) (lift ?_)
      unfold Instr.indexAt
      have hin:(0:Int)≤Int.ofNat n∧(Int.ofNat n:Int)<((len:Nat):Int):=⟨Int.natCast_nonneg _,by simp only[Int.ofNat_eq_natCast];omega⟩
      simp only[Sem.run_bind,asIntOf,Sem.run_pure,Result.andThen_ok,bL u1]
      rw[if_pos hin]
      have e3:inf.size=ie.sz:=by omega
      simp only[Sem.run_bind,run_sizeOf g1,Result.andThen_ok,Sem.run_pure,addr_add,e3,Nat.zero_add]
      rfl
   ·rename_i ie id len k ki n hte hx hi
    cases hc:Nat.blt n k with
    | false=>rw[hc]at he;simp at he
    | true=>
     rw[hc]at he
     simp only[cond_true,Option.some.injEq]at he
     subst he
     have hn:=cR.1 hc
     obtain⟨_,d1,_,u1,kk1,_⟩:=bM (hT _ _ ht)
     have:=dP kk1
     subst this
     obtain⟨inf,d2,g1,g2,_,g3,_⟩:=bM (hT _ _ hte)
     have hX:=hv x (by simp[Op.operands]) _ hx
     have hI:=hv i (by simp[Op.operands]) _ hi
     generalize a.eval x=z1 at *
     generalize a.eval i=z2 at *
     cases hI
     cases hX with
     | rv _ _ _ b cap hk hcap hr=>
      refine same (V := .pointer (some ⟨b,n*ie.sz,none⟩)) (.rp _ _ _ b (hr.imp fun _ _=>trivial)) (lift ?_)
      unfold Instr.indexAt
      have hin:(0:Int)≤Int.ofNat n∧(Int.ofNat n:Int)<((k:Nat):Int):=⟨Int.natCast_nonneg _,by simp only[Int.ofNat_eq_natCast];omega⟩
      simp only[Sem.run_bind,asIntOf,Sem.run_pure,Result.andThen_ok,bL u1]
      rw[if_pos hin]
      have e3:inf.size=ie.sz:=by omega
      simp only[Sem.run_bind,run_sizeOf g1,Result.andThen_ok,Sem.run_pure,addr_add,e3,Nat.zero_add]
      rfl
   ·simp at he
  ·simp at he
 case index t x i=>
  split at he
  ·rename_i sz byt z ag ef ht
   split at he
   ·rename_i s ki n hx hi
    split at he
    ·rename_i b hb
     simp only[Option.some.injEq]at he
     subst he
     obtain⟨_,d1,_,u1,kk1,_⟩:=bM (hT _ _ ht)
     have:=kind_str kk1
     subst this
     have hX:=hv x (by simp[Op.operands]) _ hx
     have hI:=hv i (by simp[Op.operands]) _ hi
     generalize a.eval x=z1 at *
     generalize a.eval i=z2 at *
     cases hI
     cases hX
     rename_i s
     have hn:=aI hb
     rw[fP]at hn
     have hbe:b=(s[n]'hn).toNat:=by
      unfold bytesOf at hb
      rw[List.getElem?_map]at hb
      obtain⟨u,hu,rfl⟩:=Option.map_eq_some_iff.1 hb
      have:s.data.toList[n]?=some s[n]:=by
       rw[List.getElem?_eq_getElem (by simpa using hn)]
       rfl
      rw[this]at hu
      simp only[Option.some.injEq]at hu
      rw[hu]
     refine same (V := .int .u8 (Int.ofNat b)) (.int _ _) (lift ?_)
     rw[run_index_string w t s ki (Int.ofNat n) u1,dif_pos ⟨Int.natCast_nonneg _,by simp only[Int.ofNat_eq_natCast];omega⟩,hbe]
     rfl
    ·simp at he
   ·simp at he
  ·simp at he
 case extract x i=>
  split at he
  ·rename_i vs hx
   have hX:=hv x (by simp[Op.operands]) _ hx
   generalize a.eval x=z1 at *
   cases hX
   rename_i C hC h1
   have hl:=aI he
   rw[←hC]at hl
   refine same (V:=C[i]) (h1 i _ v (Array.getElem?_eq_getElem hl) he) (lift ?_)
   unfold Instr.extract
   simp[Array.getElem?_eq_getElem hl]
  ·simp at he
 case slice t x lo hi mx=>
  split at he
  ·rename_i i u l0 h0 m0 ht hx hl hh hm
   obtain⟨inf,d1,_,u1,kk1,_⟩:=bM (hT _ _ ht)
   have hX:=hv x (by simp[Op.operands]) _ hx
   split at he
   ·rename_i s l hq m k1 e3 e4 e5
    rw[k1]at kk1
    have:=kind_str kk1
    subst this
    have q1:=natOf_VR hl e3 fun y hy u hu=>hv y (by simp[Op.operands]at hy ⊢;simp[hy]) u hu
    have q2:=natOf_VR hh e4 fun y hy u hu=>hv y (by simp[Op.operands]at hy ⊢;simp[hy]) u hu
    have q3:=natOf_VR hm e5 fun y hy u hu=>hv y (by simp[Op.operands]at hy ⊢;simp[hy]) u hu
    have hX2:=hX
    generalize hz1:a.eval x=z1 at hX2
    cases hX2
    rename_i s'
    cases m with
    | some m=>simp[bW]at he
    | none=>
     obtain⟨V,k1,k2⟩:=slice_str_sim (P:=P) (G:=G) (w:=w) u1 he
     rw[←hz1]
     exact same k2 (lift (by rw[q1,q2,q3,hz1];exact k1))
   ·rename_i e o' els l hq m k1 e3 e4 e5
    rw[k1]at kk1
    have:=dP kk1
    subst this
    have q1:=natOf_VR hl e3 fun y hy u hu=>hv y (by simp[Op.operands]at hy ⊢;simp[hy]) u hu
    have q2:=natOf_VR hh e4 fun y hy u hu=>hv y (by simp[Op.operands]at hy ⊢;simp[hy]) u hu
    have q3:=natOf_VR hm e5 fun y hy u hu=>hv y (by simp[Op.operands]at hy ⊢;simp[hy]) u hu
    split at he
    ·rename_i ie hte
     obtain⟨inf2,d2,g1,g2,_,g3,_⟩:=bM (hT _ _ hte)
     cases hc:aM ie.sz els with
     | false=>rw[hc]at he;simp at he
     | true=>
      rw[hc]at he
      simp only[cond_true]at he
      obtain⟨V,k1,k2⟩:=slice_sl_sim u1 g1 hX (by rw[←g3];exact hc) he
      exact same k2 (lift (by rw[q1,q2,q3];exact k1))
    ·simp at he
   ·rename_i e id len own l hq m k1 e3 e4 e5
    rw[k1]at kk1
    have:=dP kk1
    subst this
    have q1:=natOf_VR hl e3 fun y hy u hu=>hv y (by simp[Op.operands]at hy ⊢;simp[hy]) u hu
    have q2:=natOf_VR hh e4 fun y hy u hu=>hv y (by simp[Op.operands]at hy ⊢;simp[hy]) u hu
    have q3:=natOf_VR hm e5 fun y hy u hu=>hv y (by simp[Op.operands]at hy ⊢;simp[hy]) u hu
    cases hte:ty e with
    | none=>rw[hte]at he;simp at he
    | some iee=>
    rw[hte]at he
    simp only at he
    obtain⟨inf2,d2,g1,g2,_,g3,_⟩:=bM (hT _ _ hte)
    cases hc:(Nat.beq (l.getD 0) 0&&(Nat.beq (hq.getD len) len&&(Nat.beq (m.getD len) len&&(m.isNone||hq.isSome))))with
    | false=>
     rw[hc]at he
     simp only[cond_false]at he
     cases hc2:(own&&(Nat.beq (l.getD 0) 0&&(Nat.ble (hq.getD len) len&&m.isNone)))with
     | false=>rw[hc2]at he;simp at he
     | true=>
      rw[hc2]at he
      simp only[cond_true,Option.some.injEq]at he
      subst he
      simp only[Bool.and_eq_true]at hc2
      have hX2:=hX
      generalize hz1:a.eval x=z1 at hX2
      cases hX2 with
      | rs _ _ b cap _ hcap hr=>
       cases m with
       | some m=>simp at hc2
       | none=>
        obtain⟨V,k1,k2⟩:=slice_rv_sim (P:=P) (w:=w) u1 g1 (Nat.le_refl len) hcap (hr.imp fun _ f=>f hc2.1) (bV.1 hc2.2.1) (Nat.le_of_ble_eq_true hc2.2.2.1)
        rw[←hz1]
        exact same k2 (lift (by rw[q1,q2,q3,hz1];exact k1))
    | true=>
     rw[hc]at he
     simp only[cond_true,Option.some.injEq]at he
     subst he
     simp only[Bool.and_eq_true,Bool.or_eq_true]at hc
     have hX2:=hX
     generalize hz1:a.eval x=z1 at hX2
     cases hX2 with
     | rs _ _ b cap _ hcap hr=>
      obtain⟨V,k1,k2⟩:=slice_rs_sim (P:=P) (w:=w) u1 g1 hcap hr (bV.1 hc.1) (bV.1 hc.2.1) (bV.1 hc.2.2.1) hc.2.2.2
      rw[←hz1]
      exact same k2 (lift (by rw[q1,q2,q3,hz1];exact k1))
   ·rename_i e id len k l hq m k1 e3 e4 e5
    rw[k1]at kk1
    have:=dP kk1
    subst this
    have q1:=natOf_VR hl e3 fun y hy u hu=>hv y (by simp[Op.operands]at hy ⊢;simp[hy]) u hu
    have q2:=natOf_VR hh e4 fun y hy u hu=>hv y (by simp[Op.operands]at hy ⊢;simp[hy]) u hu
    have q3:=natOf_VR hm e5 fun y hy u hu=>hv y (by simp[Op.operands]at hy ⊢;simp[hy]) u hu
    cases hte:ty e with
    | none=>rw[hte]at he;simp at he
    | some iee=>
    rw[hte]at he
    simp only at he
    obtain⟨inf2,d2,g1,g2,_,g3,_⟩:=bM (hT _ _ hte)
    cases hc2:(Nat.beq (l.getD 0) 0&&(Nat.ble (hq.getD k) k&&m.isNone))with
    | false=>rw[hc2]at he;simp at he
    | true=>
     rw[hc2]at he
     simp only[cond_true,Option.some.injEq]at he
     subst he
     simp only[Bool.and_eq_true]at hc2
     have hX2:=hX
     generalize hz1:a.eval x=z1 at hX2
     cases hX2 with
     | rv _ _ _ b cap hk hcap hr=>
      cases m with
      | some m=>simp at hc2
      | none=>
       obtain⟨V,k1,k2⟩:=slice_rv_sim (P:=P) (w:=w) u1 g1 hk hcap hr (bV.1 hc2.1) (Nat.le_trans (Nat.le_of_ble_eq_true hc2.2.1) hk)
       rw[←hz1]
       exact same k2 (lift (by rw[q1,q2,q3,hz1];exact k1))
   ·simp at he
  ·simp at he
end
end Go.Ev
namespace Go.Ev
variable [Inhabited KA0] [MT]
def readB (o:Op):Bool:=match aL o with | .read=>true|_=>false
def allocB (o:Op):Bool:=match aL o with | .new=>true|_=>false
def quietB (o:Op):Bool:=match aL o with | .write=>false|_=>true
theorem pure_any {ty:Nat→Option TyI} {tm:Tm} {h h':H} {o:Op} {v:AV} (hp:aL o = .pure) (he:bT ty tm h o=some (v,h')):h'=h∧∀ h2,bT ty tm h2 o=some (v,h2):=by
 unfold bT at he ⊢
 rw[hp]at he ⊢
 simp only at he ⊢
 cases hv:aN ty tm o with
 | none=>rw[hv]at he;simp at he
 | some u=>
  rw[hv]at he
  simp only[Option.some.injEq,Prod.mk.injEq]at he
  obtain⟨rfl,rfl⟩:=he
  exact⟨rfl,fun h2=>rfl⟩
theorem new_get {h:H} (wf:∀ id p,h.t.get id=some p→id<h.nx) {ob:Obj} {id:Nat} {p:Obj} (hg:h.t.get id=some p):(h.new ob).t.get id=some p:=by
 have:=wf id p hg
 exact(T.aD _ _ (by omega)).trans hg
theorem read_new {ty:Nat→Option TyI} {tm:Tm} {h:H} {o:Op} {v:AV} (he:aQ ty tm h o=some v) (ob:Obj) (wf:∀ id p,h.t.get id=some p→id<h.nx):aQ ty tm (h.new ob) o=some v:=by
 cases o<;>simp only[aQ]at he ⊢<;>try (simp at he;done)
 case load t a=>
  repeat' split at he
  all_goals first
   | (simp at he;done)
   | (simp[*];done)
   | (rename_i hg;have:=new_get wf (ob:=ob) hg;simp[*];done)
 case lookup t m k ok=>
  split at he
  ·split at he
   ·cases hk:keyOk _ _ _ with
    | false=>simp[hk]at he
    | true=>
     simp only[hk,cond_true]at he ⊢
     split at he
     ·exact he
     ·split at he
      ·rename_i hg
       rw[new_get wf hg]
       exact he
      ·simp at he
     ·simp at he
   ·simp at he
  ·simp at he
 case call c=>
  split at he
  ·split at he
   ·split at he
    ·simp at he
    ·split at he
     ·simpa[*]using he
     ·simpa[*]using he
     ·simpa[*]using he
     ·simpa[*]using he
     ·exact he
     ·split at he
      ·rename_i hg
       rw[new_get wf hg]
       simpa[*]using he
      ·simp at he
     ·simp at he
   ·simp at he
  ·exact he
  ·exact he
  ·simp at he
theorem read_same {ty:Nat→Option TyI} {tm:Tm} {h h':H} {o:Op} {v:AV} (hp:aL o = .read) (he:bT ty tm h o=some (v,h')) :
  h'=h∧∀ ob,(∀ id p,h.t.get id=some p→id<h.nx)→bT ty tm (h.new ob) o=some (v,h.new ob):=by
 unfold bT at he ⊢
 rw[hp]at he ⊢
 simp only at he ⊢
 cases hv:aQ ty tm h o with
 | none=>rw[hv]at he;simp at he
 | some u=>
  rw[hv]at he
  simp only[Option.some.injEq,Prod.mk.injEq]at he
  obtain⟨rfl,rfl⟩:=he
  exact⟨rfl,fun ob wf=>by rw[read_new hv ob wf]⟩
theorem alloc_any {ty:Nat→Option TyI} {tm:Tm} {h h':H} {o:Op} {v:AV} (hp:aL o = .new) (he:bT ty tm h o=some (v,h')) :
  ∃ (obj:Obj) (vOf:Nat→AV),h'=h.new obj∧v=vOf h.nx∧bX ty tm o=some (obj,vOf):=by
 unfold bT at he
 rw[hp]at he
 simp only at he
 cases hv:bX ty tm o with
 | none=>rw[hv]at he;simp at he
 | some u=>
  obtain⟨ob,f⟩:=u
  rw[hv]at he
  simp only[Option.some.injEq,Prod.mk.injEq]at he
  obtain⟨rfl,rfl⟩:=he
  exact⟨ob,f,rfl,rfl,rfl⟩
theorem allVals_congr {tm tm':Tm}:∀ (l:List Operand),(∀ x∈l,val tm x=val tm' x)→aH tm l=aH tm' l
 | [],_=>rfl
 | x::l,h=>by simp only[aH];rw[h x (by simp),allVals_congr l fun y hy=>h y (by simp[hy])]
theorem optVal_congr {tm tm':Tm}:∀ (o:Option Operand),(∀ x∈o.toArray,val tm x=val tm' x)→cD tm o=cD tm' o
 | none,_=>rfl
 | some x,h=>by simp only[cD];rw[h x (by simp)]
theorem evPure_congr {ty:Nat→Option TyI} {tm tm':Tm} {o:Op} (hv:∀ x∈o.operands,val tm x=val tm' x):aN ty tm o=aN ty tm' o:=by
 cases o<;>simp only[aN]
 case build t ps=>
  rw[allVals_congr (tm:=tm) (tm':=tm') (ps.toList.map (·.2)) fun x hx=>hv x (by simpa[Op.operands]using hx)]
 case buildSlice t n ps=>
  rw[allVals_congr (tm:=tm) (tm':=tm') (ps.toList.map (·.2)) fun x hx=>hv x (by simpa[Op.operands]using hx)]
 case makeFunc fn first captured=>
  rw[allVals_congr (tm:=tm) (tm':=tm') first.toList fun x hx=>hv x (by simp[Op.operands]at hx ⊢;exact .inl hx),
   allVals_congr (tm:=tm) (tm':=tm') captured.toList fun x hx=>hv x (by simp[Op.operands]at hx ⊢;exact .inr hx)]
 case slice t x lo hi mx=>
  rw[hv x (by simp[Op.operands]),optVal_congr (tm:=tm) (tm':=tm') lo fun y hy=>hv y (by simp[Op.operands]at hy ⊢;simp[hy]),
   optVal_congr (tm:=tm) (tm':=tm') hi fun y hy=>hv y (by simp[Op.operands]at hy ⊢;simp[hy]),optVal_congr (tm:=tm) (tm':=tm') mx fun y hy=>hv y (by simp[Op.operands]at hy ⊢;simp[hy])]
 case move x=>exact hv x (by simp[Op.operands])
 case assign x=>exact hv x (by simp[Op.operands])
 case pick c a b=>rw[hv c (by simp[Op.operands]),hv a (by simp[Op.operands]),hv b (by simp[Op.operands])]
 case nilCheck x=>rw[hv x (by simp[Op.operands])]
 case binOp op t x y u=>rw[hv x (by simp[Op.operands]),hv y (by simp[Op.operands])]
 case unOp op t x=>rw[hv x (by simp[Op.operands])]
 case convert s d x=>rw[hv x (by simp[Op.operands])]
 case makeInterface t x=>rw[hv x (by simp[Op.operands])]
 case fieldAddr s x f=>rw[hv x (by simp[Op.operands])]
 case field s x f=>rw[hv x (by simp[Op.operands])]
 case indexAddr t x i=>rw[hv x (by simp[Op.operands]),hv i (by simp[Op.operands])]
 case index t x i=>rw[hv x (by simp[Op.operands]),hv i (by simp[Op.operands])]
 case extract x i=>rw[hv x (by simp[Op.operands])]
theorem evRead_congr {ty:Nat→Option TyI} {tm tm':Tm} {h:H} {o:Op} (hv:∀ x∈o.operands,val tm x=val tm' x):aQ ty tm h o=aQ ty tm' h o:=by
 cases o<;>simp only[aQ]
 case load t a=>rw[hv a (by simp[Op.operands])]
 case lookup t m k ok=>rw[hv m (by simp[Op.operands]),hv k (by simp[Op.operands])]
 case call c=>rw[allVals_congr (tm:=tm) (tm':=tm') c.args.toList fun x hx=>hv x (by simp[Op.operands,Call.operands]at hx ⊢;exact .inr hx)]
theorem evNew_congr {ty:Nat→Option TyI} {tm tm':Tm} {o:Op} (hv:∀ x∈o.operands,val tm x=val tm' x):bX ty tm o=bX ty tm' o:=by
 cases o<;>simp only[bX]
 case box t x=>rw[hv x (by simp[Op.operands])]
 case makeSlice t l c=>rw[hv l (by simp[Op.operands]),hv c (by simp[Op.operands])]
 case buildSlice t n ps=>
  rw[allVals_congr (tm:=tm) (tm':=tm') (ps.toList.map (·.2)) fun x hx=>hv x (by simpa[Op.operands]using hx)]
theorem evOp_congr {ty:Nat→Option TyI} {tm tm':Tm} {h:H} {o:Op} (hq:quietB o=true) (hv:∀ x∈o.operands,val tm x=val tm' x):bT ty tm h o=bT ty tm' h o:=by
 unfold quietB at hq
 unfold bT
 cases hk:aL o<;>rw[hk]at hq<;>simp only[Bool.false_eq_true]at hq ⊢
 ·rw[evPure_congr hv]
 ·rw[evRead_congr hv]
 ·rw[evNew_congr hv]
def AllocOk (P:Program) (ty:Nat→Option TyI):Prop:=
 ∀ G w (h:H) tm (a:Act) (o:Oper) (obj:Obj) (vOf:Nat→AV) (id:Nat),Inv G w h→aL o.op = .new→bX ty tm o.op=some (obj,vOf) →
  (∀ x∈o.op.operands,∀ u,val tm x=some u→VR G w (a.eval x) u)→id<h.nx→G.ρ id=none→G.cv id=none→h.t.get id=some obj →
  ∃ V p G',(execOp a.eval o).run P w = .ok (.value V) (w.alloc p)∧AddR G w h id G' (w.alloc p)∧VR G' (w.alloc p) V (vOf id)
def depsOf (ops:Array Oper) (i:Nat):List Nat:=
 match ops[i]? with
 | none=>[]
 | some o=>(o.after.toList.filter (Region.binds .any)).map (·.on)
def maskOf (m:T Nat):List Nat→Nat→Nat
 | [],s=>s
 | d::l,s=>maskOf m l (s ||| 2 ^ d ||| (m.get d).getD 0)
def preM (ops:Array Oper):List PE→T Nat→T Nat
 | [],m=>m
 | p::r,m=>preM ops r (m.set p.i (maskOf m (depsOf ops p.i) 0))
def preB (m:T Nat) (i j:Nat):Bool:=((m.get i).getD 0).testBit j
def looks (ops:Array Oper) (i:Nat):List Nat:=
 match ops[i]? with
 | none=>[]
 | some o=>o.looksAt ops
def dstOf (ops:Array Oper) (i:Nat):Option Nat:=(ops[i]?).bind (·.dst)
def dstIn (d:Option Nat) (l:List Nat):Bool:=
 match d with
 | none=>false
 | some d=>l.contains d
def dstSame (d e:Option Nat):Bool:=
 match d,e with
 | some a,some b=>Nat.beq a b
 | _,_=>false
def opB (f:Op→Bool) (ops:Array Oper) (i:Nat):Bool:=
 match ops[i]? with
 | none=>false
 | some o=>f o.op
def pairOk (ops:Array Oper) (m:T Nat) (p q:PE):Bool:=
 (!p.eff||preB m q.i p.i) &&
 ((!(dstIn (dstOf ops p.i) (looks ops q.i)||dstSame (dstOf ops p.i) (dstOf ops q.i))||preB m q.i p.i) &&
 ((!(dstIn (dstOf ops q.i) (looks ops p.i)||dstSame (dstOf ops p.i) (dstOf ops q.i))||(q.eff&&preB m q.i p.i)) &&
 (p.eff || !q.eff || !opB readB ops p.i||preB m q.i p.i||q.chk.contains p.i)))
def selfOk (ops:Array Oper) (p:PE):Bool:=p.eff||(opB quietB ops p.i && !dstIn (dstOf ops p.i) (looks ops p.i))
def pairsOk (ops:Array Oper) (m:T Nat):List PE→Bool
 | []=>true
 | p::r=>selfOk ops p&&(r.all (pairOk ops m p)&&(!(r.any fun q=>Nat.beq q.i p.i)&&pairsOk ops m r))
def topoOk (ops:Array Oper):List Nat→List PE→Bool
 | _,[]=>true
 | seen,p::r=>(depsOf ops p.i).all (fun d=>seen.contains d)&&topoOk ops (p.i::seen) r
def planOk (ops:Array Oper) (pl:List PE):Bool:=
 topoOk ops [] pl&&(pairsOk ops (preM ops pl .e) pl&&((List.range ops.size).all (fun k=>pl.any fun p=>Nat.beq p.i k)&&(pl.all (fun p=>Nat.blt p.i ops.size)&&Region.noSelect ops)))
theorem maskOf_bit (m:T Nat):∀ (l:List Nat) (s j:Nat),(maskOf m l s).testBit j=true→s.testBit j=true∨∃ d∈l,d=j∨((m.get d).getD 0).testBit j=true
 | [],s,j,h => .inl h
 | d::l,s,j,h=>by
  simp only[maskOf]at h
  rcases maskOf_bit m l _ j h with h|⟨e,he,h⟩
  ·rw[Nat.testBit_or,Nat.testBit_or,Bool.or_eq_true,Bool.or_eq_true]at h
   rcases h with (h|h)|h
   ·exact .inl h
   ·rw[Nat.testBit_two_pow]at h
    exact .inr ⟨d,by simp,.inl (by simpa using h)⟩
   ·exact .inr ⟨d,by simp,.inr h⟩
  ·exact .inr ⟨e,by simp[he],h⟩
def Down (ops:Array Oper) (listed:Array Bool):Prop:=∀ i,listed.getD i false=true→∀ d∈depsOf ops i,listed.getD d false=true
theorem preM_down {ops:Array Oper} {listed:Array Bool} (D:Down ops listed):∀ (pl:List PE) (m:T Nat),
  (∀ i j,preB m i j=true→listed.getD i false=true→listed.getD j false=true)→∀ i j,preB (preM ops pl m) i j=true→listed.getD i false=true→listed.getD j false=true
 | [],m,hm,i,j,h,hi=>hm i j h hi
 | p::r,m,hm,i,j,h,hi=>by
  refine preM_down D r _ (fun i j h hi => ?_) i j h hi
  unfold preB at h
  by_cases e:i=p.i
  ·subst e
   rw[T.bO]at h
   simp only[Option.getD_some]at h
   rcases maskOf_bit m _ _ _ h with h|⟨d,hd,rfl|h⟩
   ·simp at h
   ·exact D _ hi _ hd
   ·exact hm d j h (D _ hi _ hd)
  ·rw[T.aD _ _ e]at h
   exact hm i j h hi
structure Pd where
 i:Nat
 id:Option Nat
def PdOk (ty:Nat→Option TyI) (ops:Array Oper) (n:Nat) (tm:Tm) (h:H) (p:Pd):Prop:=
 ∃ o v,ops[p.i]?=some o∧quietB o.op=true∧(∀ d,o.dst=some d→d<n∧tm.get d=some v) ∧
  ((p.id=none∧aG ops tm o=some false∧v = .tup []) ∨
   (p.id=none∧aG ops tm o=some true∧allocB o.op=false∧bT ty tm h o.op=some (v,h)) ∨
   (∃ (id:Nat) (obj:Obj) (vOf:Nat→AV),p.id=some id∧aG ops tm o=some true∧aL o.op = .new∧id<h.nx∧h.t.get id=some obj∧v=vOf id∧bX ty tm o.op=some (obj,vOf)))
end Go.Ev
