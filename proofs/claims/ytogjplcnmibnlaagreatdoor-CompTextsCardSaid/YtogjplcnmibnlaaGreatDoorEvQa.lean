/- Each operation of the abstract machine is the model's: append to a row in the heap. -/
import Derived.Test.YtogjplcnmibnlaaGreatDoorEvQ
set_option autoImplicit false
set_option linter.unusedSectionVars false
set_option linter.unusedVariables false
set_option linter.unusedSimpArgs false
namespace Go.Ev
variable [Inhabited KA0] [MT]
section
variable {P:Program} {G:Gh} {w:World} {h:H}
theorem ones_of {a:List Value} {c:List AV} (r:VRs G w a c) (hone:bB c=true):∀ u∈a,u.oneCell'=true:=by
 intro u hu
 obtain⟨i,hi'⟩:=List.getElem?_of_mem hu
 have hil:i<c.length:=by rw[←r.1];exact aI hi'
 obtain⟨x,hx⟩:∃ x,c[i]?=some x:=⟨_,List.getElem?_eq_getElem hil⟩
 refine(r.2 i u x hi' hx).one ?_
 have:∀ (l:List AV),bB l=true→∀ (i:Nat) x,l[i]?=some x→x.one=true:=by
  intro l
  induction l with
  | nil=>intro _ i x hx;simp at hx
  | cons a l ih=>
   intro hl i x hx
   simp only[bB,Bool.and_eq_true]at hl
   cases i with
   | zero=>simp at hx;subst hx;exact hl.1
   | succ i=>simp at hx;exact ih hl.2 i x hx
 exact this _ hone i x hx
theorem allOne_append:∀ (a b:List AV),bB (a++b)=(bB a&&bB b)
 | [],b=>by simp[bB]
 | x::a,b=>by simp[bB,allOne_append a b,Bool.and_assoc]
theorem onesIn_all:∀ {l:List AV},bY l=true→bB (l.flatMap AV.cells)=true
 | [],_=>rfl
 | v::l,h=>by
  simp only[bY,Bool.and_eq_true]at h
  rw[List.flatMap_cons,allOne_append,h.1,onesIn_all h.2]
  rfl
theorem rowCells_sim (I:Inv G w h) {sz:Nat} {Y:Value} {y:AV} (hY:VR G w Y y) {k:Nat} {ys:List AV} (hr:eO sz h y=some (k,ys)) :
  ∃ B mc news,Y = .slice B k mc∧VRs G w news ys∧(k=0∨∃ b off,B=some ⟨b,off,none⟩∧∀ (j:Nat) v,news[j]?=some v→w.cell? ⟨b,off+j,none⟩=some v)∧∀ q∈news,q.oneCell'=true:=by
 unfold eO at hr
 split at hr
 ·rename_i o els
  cases hc:(aM sz els&&bY els)with
  | false=>rw[hc]at hr;simp at hr
  | true=>
   rw[hc]at hr
   simp only[cond_true,Option.some.injEq,Prod.mk.injEq]at hr
   obtain⟨rfl,rfl⟩:=hr
   simp only[Bool.and_eq_true]at hc
   obtain⟨B,m,mc,rfl⟩:∃ A n cap,Y = .slice A n cap:=by cases hY<;>exact⟨_,_,_,rfl⟩
   obtain⟨y1,y2,y3,news,y4,y5,y6⟩:=hY.flatten (fL hc.1)
   subst y1
   refine⟨B,mc,news,rfl,y5,?_,ones_of y5 (onesIn_all hc.2)⟩
   rcases y6 with e|⟨b,off,e,hs⟩
   ·exact .inl e
   ·exact .inr ⟨b,off,e,fun j v hj=>(hs j v hj).1⟩
 ·rename_i id len own
  split at hr
  ·rename_i n e s cs hcs
   cases hc:(Nat.beq n len&&(Nat.beq s sz&&bB cs))with
   | false=>rw[hc]at hr;simp at hr
   | true=>
    rw[hc]at hr
    simp only[cond_true,Option.some.injEq,Prod.mk.injEq]at hr
    obtain⟨rfl,rfl⟩:=hr
    simp only[Bool.and_eq_true]at hc
    have h1:=bV.1 hc.1
    have h2:=bV.1 hc.2.1
    subst h1;subst h2
    cases hY with
    | rs _ _ b cap _ hcap hrow=>
     obtain⟨cur,cap1,hb,_,_,_,_,_,_,hv,_⟩:=I.row hrow hcs
     refine⟨_,_,_,rfl,hv,.inr ⟨b,0,rfl,fun j v hj => ?_⟩,ones_of hv hc.2.2⟩
     rw[cell_at hb,Nat.zero_add]
     rw[List.getElem?_take]at hj
     split at hj
     ·simpa using hj
     ·simp at hj
  ·simp at hr
 ·rename_i id len k0
  split at hr
  ·rename_i n e s cs hcs
   cases hc:(Nat.beq n len&&(Nat.beq s sz&&bB (cs.take (k0*s))))with
   | false=>rw[hc]at hr;simp at hr
   | true=>
    rw[hc]at hr
    simp only[cond_true,Option.some.injEq,Prod.mk.injEq]at hr
    obtain⟨rfl,rfl⟩:=hr
    simp only[Bool.and_eq_true]at hc
    have h1:=bV.1 hc.1
    have h2:=bV.1 hc.2.1
    subst h1;subst h2
    cases hY with
    | rv _ _ _ b cap hk hcap hrow=>
     obtain⟨cur,cap1,hb,_,_,_,_,_,_,hv,_⟩:=I.row hrow hcs
     have hv2:=hv.take (k0*s)
     rw[List.take_take,Nat.min_eq_left (Nat.mul_le_mul_right s hk)]at hv2
     refine⟨_,_,_,rfl,hv2,.inr ⟨b,0,rfl,fun j v hj => ?_⟩,ones_of hv2 hc.2.2⟩
     rw[cell_at hb,Nat.zero_add]
     rw[List.getElem?_take]at hj
     split at hj
     ·simpa using hj
     ·simp at hj
  ·simp at hr
 ·simp at hr
theorem appR_sim0 {ty:Nat→Option TyI} (hT:TyOk P ty) (I:Inv G w h) {t u e e':Nat} {s1 b1 s2 b2:Nat} {z1 z2:Option AV} {a1 a2:Bool} {ef1 ef2 ef3:Option (List (Nat × Nat))} (ht:ty t=some ⟨.sl e,s1,b1,z1,a1,ef1⟩) (hu:ty u=some ⟨.sl e',s2,b2,z2,a2,ef3⟩)
  {k:TK} {sz byt:Nat} {z:AV} {ag:Bool} (he:ty e=some ⟨k,sz,byt,some z,ag,ef2⟩) (hzl:z.cells.length=sz) {X Y:Value} {x y:AV} (hno:∀ id len k,x ≠ .rv id len k) (hX:VR G w X x) (hY:VR G w Y y) {v:AV} {h':H}
  (hv:eQ e sz byt h x y=some (v,h')) (rt:Nat) :
  ∃ V G' w',(Builtin.append_ #[t,u] rt #[X,Y]).run P w = .ok V w'∧Inv G' w' h'∧Ext G w h G' w' h'∧VR G' w' V v:=by
 obtain⟨_,d1,_,u1,kk1,_⟩:=bM (hT _ _ ht)
 have:=dP kk1
 subst this
 obtain⟨_,d2,_,u2,kk2,_⟩:=bM (hT _ _ hu)
 have:=dP kk2
 subst this
 obtain⟨inf,d3,g1,g2,_,g3,g4,_⟩:=bM (hT _ _ he)
 simp only at g3 g4
 obtain⟨inf',Z,g5,g6,g7⟩:=zero_VR (G:=G) (w:=w) hT he rfl
 rw[g1]at g5
 simp only[Option.some.injEq]at g5
 subst g5
 have hZs:Z.cells.size=sz:=by have:=g7.cells.1;simp at this;omega
 unfold eQ at hv
 cases hr:eO sz h y with
 | none=>rw[hr]at hv;simp at hv
 | some q=>
  obtain⟨m,ys⟩:=q
  rw[hr]at hv
  simp only at hv
  cases hc:(Nat.blt 0 sz&&(Nat.blt 0 byt&&Nat.beq ys.length (m*sz)))with
  | false=>rw[hc]at hv;simp at hv
  | true=>
   rw[hc]at hv
   simp only[cond_true]at hv
   simp only[Bool.and_eq_true]at hc
   have hsz:=cR.1 hc.1
   have hby:=cR.1 hc.2.1
   have hyl:=bV.1 hc.2.2
   obtain⟨B,mc,news,rfl,y5,y6,hone⟩:=rowCells_sim I hY hr
   have y4:news.length=m*sz:=by rw[y5.1,hyl]
   have hf0:∀ (Bq:Option Addr),(Builtin.firstCells inf.size 0 (.slice Bq 0 mc)).run P w = .ok #[] w:=by
    intro Bq
    cases Bq with
    | none=>simp[Builtin.firstCells]
    | some bq=>simp[Builtin.firstCells,loadCells,loadCellsFrom]
   split at hv
   ·-- empty,without room
    obtain⟨A,rfl⟩:∃ A,X = .slice A 0 0:=by
     cases hX with
     | sl0 A cap o hn ho=>have:cap=0:=ho;subst this;exact⟨A,rfl⟩
     | sl b off len cap s o els f hl hc hs h1 h2 ho=>
      have e1:len=0:=by rw[←hl];rfl
      have e2:cap=len:=ho
      subst e1;subst e2
      exact⟨_,rfl⟩
    rw[append_types u1 u2]
    cases hk0:Nat.beq m 0 with
    | true=>
     rw[hk0]at hv
     simp only[cond_true,Option.some.injEq,Prod.mk.injEq]at hv
     obtain⟨rfl,rfl⟩:=hv
     have:=bV.1 hk0
     subst this
     refine⟨.slice A 0 0,G,w,?_,I,Ext.refl G w h,hX⟩
     cases A with
     | none=>simp[Builtin.append_,bL u1,run_sizeOf g1,Builtin.lenOf,hf0]
     | some aq=>simp[Builtin.append_,bL u1,run_sizeOf g1,Builtin.lenOf,hf0,storeCells]
    | false=>
     rw[hk0]at hv
     simp only[cond_false]at hv
     have hmpos:0<m:=by
      rcases Nat.eq_zero_or_pos m with e|e
      ·subst e;simp at hk0
      ·exact e
     cases hle0:Nat.ble (m*byt) 140737488355328 with
     | false=>rw[hle0]at hv;simp at hv
     | true=>
      rw[hle0]at hv
      simp only[cond_true,Option.some.injEq,Prod.mk.injEq]at hv
      obtain⟨rfl,rfl⟩:=hv
      have hnm:=Nat.le_of_ble_eq_true hle0
      have hnm2:m≤140737488355328:=Nat.le_trans (Nat.le_mul_of_pos_right _ hby) hnm
      obtain⟨bn,on,rfl,hnews⟩:∃ b off,B=some ⟨b,off,none⟩∧∀ (j:Nat) v,news[j]?=some v→w.cell? ⟨b,off+j,none⟩=some v:=by
       rcases y6 with e|h
       ·omega
       ·exact h
      have hnews':∀ j v,news[j]?=some v→w.cell? ((⟨bn,on,none⟩:Addr).add j)=some v:=fun j v hj=>by rw[addr_add];exact hnews j v hj
      obtain⟨cap',q1,q2,q3⟩:∃ cap',m≤cap'∧cap'≤maxLen∧(Builtin.append_ #[t,t] rt #[.slice A 0 0,.slice (some ⟨bn,on,none⟩) m mc]).run P w =
        .ok (.slice (some ⟨w.heap.size,0,none⟩) m cap') (w.drew.alloc (.cells (news.toArray++Builtin.zeroCells Z.cells (cap'-m)) e)):=by
       cases A with
       | none=>
        refine⟨grownCap w m 0 e,by simpa using grownCap_ge w m 0 e,grownCap_le_maxLen w m 0 e (by simp only[maxLen];omega),?_⟩
        have:=run_append_nil (P:=P) w t rt e inf Z u1 g1 g6 ⟨bn,on,none⟩ m mc news (by rw[y4,g3]) hnews' hmpos (by omega) (by rw[←g4];omega)
        simpa using this
       | some a=>
        refine⟨grownCap w (0+m) 0 e,by simpa using grownCap_ge w (0+m) 0 e,grownCap_le_maxLen w (0+m) 0 e (by simp only[maxLen];omega),?_⟩
        have:=run_append_grow (P:=P) w t rt e inf Z u1 g1 g6 a 0 0 [] (by simp) (fun j v hj=>by simp at hj) ⟨bn,on,none⟩ m mc news (by rw[y4,g3]) hnews' (by omega) (by omega) (growslice_fits (by omega) (by rw[←g4];simpa using hnm))
        simpa using this
      obtain⟨f1,f2,f3⟩:=I.fresh
      have I1:=new_inv (drew_inv I) (.row m e sz ys)
      have hget:(h.new (.row m e sz ys)).t.get h.nx=some (.row m e sz ys):=T.bO _ _ _
      have R:=addRow_R (w:=w.drew) I1 h.nx (Nat.lt_succ_self _) f1 f2 (cap:=cap') (C:=news.toArray++Builtin.zeroCells Z.cells (cap'-m)) hget hsz q1 q2
       (by simp only[Array.size_append,List.size_toArray,size_zeroCells,hZs,y4,←Nat.add_mul];congr 1;omega)
       (by rw[Array.toList_append,←y4,List.take_left];exact y5.mono (drew_ext G w h))
      refine⟨_,_,_,q3,R.inv,(drew_ext G w h).trans (R.ext h (Nat.le_succ _) (fun j hj _ _=>by omega) (fun j hj=>T.aD _ _ (by omega))),?_⟩
      exact .rs h.nx m _ cap' true q1 ⟨m,_,by simp[Gh.addRow],Nat.le_refl _,fun _=>⟨cap',rfl,fun _=>rfl⟩⟩
   ·-- a row
    rename_i id len
    split at hv
    ·rename_i n e'' s cs hcs
     cases hcc:(Nat.beq n len&&(Nat.beq e'' e&&(Nat.beq s sz&&Nat.ble ((len+m)*byt) 140737488355328)))with
     | false=>rw[hcc]at hv;simp at hv
     | true=>
      rw[hcc]at hv
      simp only[cond_true]at hv
      simp only[Bool.and_eq_true]at hcc
      have e1:=bV.1 hcc.1
      have e2:=bV.1 hcc.2.1
      have e3:=bV.1 hcc.2.2.1
      have hnm:=Nat.le_of_ble_eq_true hcc.2.2.2
      subst e1;subst e2;subst e3
      have hnm2:n+m≤140737488355328:=Nat.le_trans (Nat.le_mul_of_pos_right _ hby) hnm
      cases hX with
      | rs _ _ b cap _ hcap hrow=>
       obtain⟨cur,cap1,hb,hcv,hp,hbase,hle,hcm,hcs2,hvs,hfr,how,_,hid⟩:=I.row hrow hcs
       have hp':=hp rfl
       subst hp'
       rw[append_types u1 u2]
       cases hk0:Nat.beq m 0 with
       | true=>
        rw[hk0]at hv
        simp only[cond_true,Option.some.injEq,Prod.mk.injEq]at hv
        obtain⟨rfl,rfl⟩:=hv
        have:=bV.1 hk0
        subst this
        refine⟨_,G,w,?_,I,Ext.refl G w h,.rs id n b cap1 true hcap hrow⟩
        simp[Builtin.append_,bL u1,run_sizeOf g1,Builtin.lenOf,hcap,hf0,storeCells]
       | false=>
        rw[hk0]at hv
        simp only[cond_false,Option.some.injEq,Prod.mk.injEq]at hv
        obtain⟨rfl,rfl⟩:=hv
        have hmpos:0<m:=by
         rcases Nat.eq_zero_or_pos m with e|e
         ·subst e;simp at hk0
         ·exact e
        obtain⟨bn,on,rfl,hnews⟩:∃ b off,B=some ⟨b,off,none⟩∧∀ (j:Nat) v,news[j]?=some v→w.cell? ⟨b,off+j,none⟩=some v:=by
         rcases y6 with e|h
         ·omega
         ·exact h
        have hnews':∀ j v,news[j]?=some v→w.cell? ((⟨bn,on,none⟩:Addr).add j)=some v:=fun j v hj=>by rw[addr_add];exact hnews j v hj
        have hms:n*s≤cur.size:=by rw[hcs2];exact Nat.mul_le_mul_right s hle
        have hxl:(cur.toList.take (n*s)).length=n*s:=by rw[List.length_take];simp;omega
        have hbl:b<w.heap.size:=(Array.getElem?_eq_some_iff.1 hb).1
        have hcells:(cur.toList.take (n*s)++news).length=(n+m)*s:=by rw[List.length_append,hxl,y4,Nat.add_mul]
        by_cases hroom:n+m≤cap1
        ·have hfit:n*inf.size+news.length≤cur.size:=by rw[y4,hcs2,←g3,←Nat.add_mul];exact Nat.mul_le_mul_right _ hroom
         have hrun:=run_append_room (P:=P) w t rt e'' inf u1 g1 b n cap1 cur hb ⟨bn,on,none⟩ m mc news (by rw[y4,g3]) hnews' hone hroom hfit
         rw[←g3]at hrun hfit
         have hst:=chain_step (h':=h.put id (.row (n+m) e'' s (cs++ys))) (et:=e'') I (id:=id) (n:=n) (n':=n+m) (V' := .slice (some ⟨b,0,none⟩) (n+m) cap1) (b:=b) (w':=w.setRow b (cur.toList.take (n*s)++news++cur.toList.drop (n*s+news.length)).toArray) (size:=s) (k:=0) (k':=0) (Nat.le_refl _)
          (.inr ⟨_,hcv⟩) (by omega) hbase (by simp[World.setRow];exact hbl) (by simp[World.setRow]) rfl rfl rfl
          (.inr ⟨how,hbl,hfr,fun o v ho=>absurd ho (by omega)⟩) (fun c hc hne=>setRow_other w b c _ hne) hsz
          ⟨fun j hj=>T.aD _ _ hj,Nat.le_refl _,hid⟩ ⟨cap1,cur.toList.take (n*s)++news,rfl,⟨hcells,.inr ⟨b,cap1,_,rfl,hbase,setRow_heap w b cur _ e'' _ hb,hroom,hcm,?_,?_⟩⟩,fun G' E => .inr ⟨cs++ys,T.bO _ _ _,rfl,(hvs.append y5).mono E⟩⟩
         ·exact⟨_,_,_,hrun,hst.1,hst.2,.rs id (n+m) b cap1 true hroom ⟨n+m,_,by simp[Gh.chain],Nat.le_refl _,fun _=>⟨cap1,rfl,fun _=>rfl⟩⟩⟩
         ·simp only[List.size_toArray,List.length_append,List.length_drop,Array.length_toList,y4,hxl]
          rw[hcs2]
          have:=Nat.mul_le_mul_right s hroom
          rw[Nat.add_mul]at this
          omega
         ·simp only[]
          rw[←hcells]
          exact List.take_left
        ·have hgrow:cap1<n+m:=by omega
         have hrun:=run_append_grow (P:=P) w t rt e'' inf Z u1 g1 g6 ⟨b,0,none⟩ n cap1 (cur.toList.take (n*s)) (by rw[hxl,g3]) (fun j v hj=>by
          rw[addr_add,cell_at hb,Nat.zero_add]
          rw[List.getElem?_take]at hj
          split at hj
          ·simpa using hj
          ·simp at hj) ⟨bn,on,none⟩ m mc news (by rw[y4,g3]) hnews' hgrow (by omega) (growslice_fits hgrow (by rw[←g4];exact hnm))
         have hge:=grownCap_ge w (n+m) cap1 e''
         have hgm:=grownCap_le_maxLen w (n+m) cap1 e'' (by simp only[maxLen];omega)
         generalize grownCap w (n+m) cap1 e''=cap' at *
         have hst:=chain_step (h':=h.put id (.row (n+m) e'' s (cs++ys))) (et:=e'') I (id:=id) (n:=n) (n':=n+m) (V' := .slice (some ⟨w.heap.size,0,none⟩) (n+m) cap') (b:=w.heap.size) (w':=w.drew.alloc (.cells ((cur.toList.take (n*s)++news).toArray++Builtin.zeroCells Z.cells (cap'-(n+m))) e'')) (size:=s) (k:=0) (k':=0) (Nat.le_refl _)
          (.inr ⟨_,hcv⟩) (by omega) I.bas (by simp) (by simp) rfl rfl rfl (.inl rfl) (fun c hc _=>heap_alloc_old w.drew _ c hc) hsz
          ⟨fun j hj=>T.aD _ _ hj,Nat.le_refl _,hid⟩ ⟨cap',cur.toList.take (n*s)++news,rfl,⟨hcells,.inr ⟨w.heap.size,cap',_,rfl,I.bas,heap_alloc_new w.drew _,hge,hgm,?_,?_⟩⟩,fun G' E => .inr ⟨cs++ys,T.bO _ _ _,rfl,(hvs.append y5).mono E⟩⟩
         ·exact⟨_,_,_,(by simpa using hrun),hst.1,hst.2,.rs id (n+m) w.heap.size cap' true hge ⟨n+m,_,by simp[Gh.chain],Nat.le_refl _,fun _=>⟨cap',rfl,fun _=>rfl⟩⟩⟩
         ·simp only[Array.size_append,List.size_toArray,size_zeroCells,hZs,hcells,←Nat.add_mul]
          congr 1
          omega
         ·rw[Array.toList_append,←hcells]
          exact List.take_left
    ·simp at hv
   ·exact absurd rfl (hno _ _ _)
   ·simp at hv
theorem appR_sim {ty:Nat→Option TyI} (hT:TyOk P ty) (I:Inv G w h) {t u e e':Nat} {s1 b1 s2 b2:Nat} {z1 z2:Option AV} {a1 a2:Bool} {ef1 ef2 ef3:Option (List (Nat × Nat))} (ht:ty t=some ⟨.sl e,s1,b1,z1,a1,ef1⟩) (hu:ty u=some ⟨.sl e',s2,b2,z2,a2,ef3⟩)
  {kd:TK} {sz byt:Nat} {z:AV} {ag:Bool} (he:ty e=some ⟨kd,sz,byt,some z,ag,ef2⟩) (hzl:z.cells.length=sz) {X Y:Value} {x y:AV} (hX:VR G w X x) (hY:VR G w Y y) {v:AV} {h':H}
  (hv:eQ e sz byt h x y=some (v,h')) (rt:Nat) :
  ∃ V G' w',(Builtin.append_ #[t,u] rt #[X,Y]).run P w = .ok V w'∧Inv G' w' h'∧Ext G w h G' w' h'∧VR G' w' V v:=by
 by_cases hno:∀ id len k,x ≠ .rv id len k
 ·exact appR_sim0 hT I ht hu he hzl hno hX hY hv rt
 simp only[ne_eq,Classical.not_forall,Classical.not_not]at hno
 obtain⟨id,len,k,rfl⟩:=hno
 cases hlk:Nat.beq len k with
 | true=>
  have:=bV.1 hlk
  subst this
  refine appR_sim0 hT I ht hu he hzl (x := .rs id len true) (fun _ _ _ e=>by cases e) ?_ hY ?_ rt
  ·cases hX with
   | rv _ _ _ b cap hk hcap hrow=>exact .rs id len b cap true hcap (hrow.imp fun _ e _=>e)
  ·rw[←hv]
   unfold eQ
   simp only[hlk,cond_true]
 | false=>
 obtain⟨_,d1,_,u1,kk1,_⟩:=bM (hT _ _ ht)
 have:=dP kk1
 subst this
 obtain⟨_,d2,_,u2,kk2,_⟩:=bM (hT _ _ hu)
 have:=dP kk2
 subst this
 obtain⟨inf,d3,g1,g2,_,g3,g4,_⟩:=bM (hT _ _ he)
 simp only at g3 g4
 unfold eQ at hv
 cases hr:eO sz h y with
 | none=>rw[hr]at hv;simp at hv
 | some q=>
  obtain⟨m,ys⟩:=q
  rw[hr]at hv
  simp only[hlk,cond_false]at hv
  cases hc:(Nat.blt 0 sz&&(Nat.blt 0 byt&&Nat.beq ys.length (m*sz)))with
  | false=>rw[hc]at hv;simp at hv
  | true=>
  rw[hc]at hv
  simp only[cond_true]at hv
  simp only[Bool.and_eq_true]at hc
  have hsz:=cR.1 hc.1
  have hyl:=bV.1 hc.2.2
  split at hv
  ·rename_i n e'' s cs hcs
   cases hcc:(Nat.beq n len&&(Nat.beq e'' e&&(Nat.beq s sz&&Nat.ble ((len+m)*byt) 140737488355328)))with
   | false=>rw[hcc]at hv;simp at hv
   | true=>
    rw[hcc]at hv
    simp only[cond_true]at hv
    simp only[Bool.and_eq_true]at hcc
    have c1:=bV.1 hcc.1
    have c2:=bV.1 hcc.2.1
    have c3:=bV.1 hcc.2.2.1
    subst c1;subst c2;subst c3
    cases hm:(Nat.blt 0 m&&Nat.ble (k+m) n)with
    | false=>rw[hm]at hv;simp at hv
    | true=>
    rw[hm]at hv
    simp only[cond_true,Option.some.injEq,Prod.mk.injEq]at hv
    obtain⟨rfl,rfl⟩:=hv
    simp only[Bool.and_eq_true]at hm
    have hmpos:=cR.1 hm.1
    have hkm:=Nat.le_of_ble_eq_true hm.2
    obtain⟨B,mc,news,rfl,y5,y6,hone⟩:=rowCells_sim I hY hr
    have y4:news.length=m*s:=by rw[y5.1,hyl]
    cases hX with
    | rv _ _ _ b cap hk hcap hrow=>
     obtain⟨cur,cap1,hb,hcv,hp,hbase,hle,hcm,hcs2,hvs,hfr,how,_,hid⟩:=I.row hrow hcs
     subst hp
     rw[append_types u1 u2]
     obtain⟨bn,on,rfl,hnews⟩:∃ b off,B=some ⟨b,off,none⟩∧∀ (j:Nat) v,news[j]?=some v→w.cell? ⟨b,off+j,none⟩=some v:=by
      rcases y6 with e|h
      ·omega
      ·exact h
     have hnews':∀ j v,news[j]?=some v→w.cell? ((⟨bn,on,none⟩:Addr).add j)=some v:=fun j v hj=>by rw[addr_add];exact hnews j v hj
     have hcl:cs.length=n*s:=by
      have h1:=hvs.1
      have h2:=Nat.mul_le_mul_right s hle
      rw[List.length_take,Array.length_toList]at h1
      omega
     have hfl:k*s+ys.length≤cs.length:=by rw[hyl,hcl,←Nat.add_mul];exact Nat.mul_le_mul_right s hkm
     obtain⟨q1,q2,q3⟩:=write_row I hrow hcs (off:=k*s) y5 hfl hb
     have hroom:k+m≤cap1:=Nat.le_trans hkm hle
     have hrun:=run_append_room (P:=P) w t rt e'' inf u1 g1 b k cap1 cur hb ⟨bn,on,none⟩ m mc news (by rw[y4,g3]) hnews' hone hroom (by rw[←g3];exact q1)
     rw[←g3]at hrun
     exact⟨_,G,_,hrun,q2,q3,.rv id n (k+m) b cap1 hkm hle hrow⟩
  ·simp at hv
end
end Go.Ev
