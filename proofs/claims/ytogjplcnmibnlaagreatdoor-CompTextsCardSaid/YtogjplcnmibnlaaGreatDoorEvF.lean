/- Each operation of the abstract machine is the model's: loads, stores, parts. -/
import Derived.Test.YtogjplcnmibnlaaGreatDoorEvD
import Derived.Laws.Strings
import Derived.Laws.Small
import Derived.Laws.StructEq
set_option autoImplicit false
set_option linter.unusedSectionVars false
set_option linter.unusedVariables false
set_option linter.unusedSimpArgs false
namespace Go.Ev
variable [Inhabited KA0] [MT]
section
variable {P:Program} {G:Gh} {w:World} {h:H}
theorem run_isAgg {t:Nat} {d:TypeDesc} (h:P.underlying t=some d):(isAgg t).run P w = .ok (isAggD d) w:=by
 unfold isAgg underlying
 simp only[Sem.run_bind,run_program,Result.andThen_ok,h,Sem.run_pure]
 cases d<;>rfl
theorem bL {t:Nat} {d:TypeDesc} (h:P.underlying t=some d):(underlying t).run P w = .ok d w:=by
 unfold underlying
 simp only[Sem.run_bind,run_program,Result.andThen_ok,h,Sem.run_pure]
theorem run_info {t:Nat} {d:TypeInfo} (h:P.info? t=some d):(typeInfo t).run P w = .ok d w:=by
 unfold typeInfo
 simp only[Sem.run_bind,run_program,Result.andThen_ok,h,Sem.run_pure]
theorem run_sizeOf {t:Nat} {d:TypeInfo} (h:P.info? t=some d):(sizeOf t).run P w = .ok d.size w:=by
 unfold sizeOf
 simp only[Sem.run_bind,run_info h,Result.andThen_ok,Sem.run_pure]
theorem run_zero {t:Nat} {d:TypeInfo} {z:Value} (h:P.info? t=some d) (hz:d.zero=some z):(zeroValue t).run P w = .ok z w:=by
 unfold zeroValue
 simp only[Sem.run_bind,run_info h,Result.andThen_ok,hz,Sem.run_pure]
theorem addr_add (b o j:Nat):(⟨b,o,none⟩:Addr).add j=⟨b,o+j,none⟩:=by
 unfold Addr.add
 split
 ·rename_i h;subst h;rfl
 ·rfl
theorem readAt_drop {ag:Bool} {sz:Nat} {cs:List AV} {off:Nat} {v:AV} (h:aV ag sz cs off=some v):aV ag sz (cs.drop off) 0=some v:=by
 unfold aV at *
 cases ag with
 | true=>
  simp only[cond_true]at h ⊢
  cases hb:Nat.ble (off+sz) cs.length with
  | true=>
   rw[hb]at h
   have hle:off+sz≤cs.length:=Nat.le_of_ble_eq_true hb
   have:Nat.ble (0+sz) (cs.drop off).length=true:=Nat.ble_eq_true_of_le (by rw[List.length_drop];omega)
   rw[this]
   simpa using h
  | false=>rw[hb]at h;simp at h
 | false=>
  simp only[cond_false]at h ⊢
  rw[List.getElem?_drop]
  simpa using h
theorem getElem?_lt' {α:Type} {l:List α} {i:Nat} {x:α} (h:l[i]?=some x):i<l.length:=(List.getElem?_eq_some_iff.1 h).1
theorem load_sim {t:Nat} {inf:TypeInfo} {d:TypeDesc} (hi:P.info? t=some inf) (hd:P.underlying t=some d) (b off:Nat) (cs:List AV) (f:Nat→Value)
  (h1:∀ j,j<cs.length→w.cell? ⟨b,off+j,none⟩=some (f j)) (h2:∀ j x,cs[j]?=some x→VR G w (f j) x) {v:AV} (hv:aV (isAggD d) inf.size cs 0=some v) :
  ∃ V,(Instr.loadAt t (.pointer (some ⟨b,off,none⟩))).run P w = .ok V w∧VR G w V v:=by
 unfold Instr.loadAt Instr.sureAddr loadVar
 simp only[Sem.run_bind,Sem.run_pure,Result.andThen_ok,run_isAgg hd]
 unfold aV at hv
 cases ha:isAggD d with
 | true=>
  rw[ha]at hv
  simp only[cond_true,Nat.zero_add,List.drop_zero]at hv
  cases hb:Nat.ble inf.size cs.length with
  | false=>rw[hb]at hv;simp at hv
  | true=>
   rw[hb]at hv
   have hle:inf.size≤cs.length:=Nat.le_of_ble_eq_true hb
   simp only[cond_true,Option.some.injEq]at hv
   subst hv
   refine⟨.agg ((List.range inf.size).map f).toArray,?_,?_⟩
   ·have:=run_loadCells (P:=P) (w:=w) ⟨b,off,none⟩ inf.size f (fun j hj=>by rw[addr_add];exact h1 j (by omega))
    simp only[if_true,Sem.run_bind,run_sizeOf hi,Result.andThen_ok,this,Sem.run_pure]
   ·refine .agg _ _ (by simp[Nat.min_eq_left hle]) (fun i u x hu hx => ?_)
    have hu2:((List.range inf.size).map f)[i]?=some u:=by simpa using hu
    have hi':i<inf.size:=by have:=getElem?_lt' hu2;simpa using this
    rw[List.getElem?_map,List.getElem?_range hi']at hu2
    simp only[Option.map_some,Option.some.injEq]at hu2
    subst hu2
    rw[List.getElem?_take_of_lt hi']at hx
    exact h2 i x hx
 | false=>
  rw[ha]at hv
  simp only[cond_false]at hv
  have hl:0<cs.length:=by
   cases cs with
   | nil=>simp at hv
   | cons=>simp
  refine⟨f 0,?_,h2 0 v hv⟩
  have:=h1 0 hl
  simp only[Nat.add_zero]at this
  simp[this]
theorem aI {α:Type} {l:List α} {i:Nat} {x:α} (h:l[i]?=some x):i<l.length:=(List.getElem?_eq_some_iff.1 h).1
theorem Inv.cells (I:Inv G w h) {id b:Nat} {cs:List AV} (hr:G.ρ id=some b) (ho:h.t.get id=some (.cells cs)) :
  ∃ c e,w.heap[b]?=some (.cells c e (0,0))∧VRs G w c.toList cs:=by
 obtain⟨_,_,_,h4⟩:=I.obj id b hr
 rw[ho]at h4
 match hb:w.heap[b]?,h4 with
 | some (.cells c e fz),h4=>
  obtain⟨h5,h6⟩:=h4
  subst h5
  exact⟨c,e,rfl,h6⟩
theorem Inv.mapAt (I:Inv G w h) {id b:Nat} {es:List (AV × AV)} (hr:G.ρ id=some b) (ho:h.t.get id=some (.map es)) :
  ∃ ents clk,w.heap[b]?=some (.map ents clk)∧ents.size=es.length∧∀ (i:Nat) e k x,ents[i]?=some e→es[i]?=some (k,x)→VR G w e.key k∧VR G w e.val x:=by
 obtain⟨_,_,_,h4⟩:=I.obj id b hr
 rw[ho]at h4
 match hb:w.heap[b]?,h4 with
 | some (.map ents clk),h4=>exact⟨ents,clk,rfl,h4⟩
theorem cell_at {c:Array Value} {e:Nat} {fz:Nat × Nat} {b:Nat} (hb:w.heap[b]?=some (.cells c e fz)) (o:Nat):w.cell? ⟨b,o,none⟩=c[o]?:=by
 simp[World.cell?,hb]
theorem load_ptr (I:Inv G w h) {t:Nat} {inf:TypeInfo} {d:TypeDesc} (hi:P.info? t=some inf) (hd:P.underlying t=some d) {id b off:Nat} {cs:List AV}
  (hr:G.ρ id=some b) (ho:h.t.get id=some (.cells cs)) {v:AV} (hv:aV (isAggD d) inf.size cs off=some v) :
  ∃ V,(Instr.loadAt t (.pointer (some ⟨b,off,none⟩))).run P w = .ok V w∧VR G w V v:=by
 obtain⟨c,e,hb,hc⟩:=I.cells hr ho
 refine load_sim hi hd b off (cs.drop off) (fun j=>c.getD (off+j) undef) (fun j hj => ?_) (fun j x hx => ?_) (readAt_drop hv)
 ·rw[cell_at hb]
  have:off+j<c.size:=by have:=hc.1;simp at this hj;omega
  simp[this]
 ·rw[List.getElem?_drop]at hx
  have hl:=aI hx
  have:off+j<c.size:=by have:=hc.1;simp at this;omega
  exact hc.2 (off+j) _ x (by simp[this]) hx
theorem fillAt_eq:∀ (cs:List AV) (o:Nat) (vs:List AV),o+vs.length≤cs.length→aY cs o vs=cs.take o++vs++cs.drop (o+vs.length)
 | cs,0,[],_=>by cases cs<;>simp[aY]
 | [],o+1,vs,h=>by simp at h
 | [],0,_::_,h=>by simp at h
 | _::l,0,v::vs,h=>by simp only[aY];rw[fillAt_eq l 0 vs (by simp at h ⊢;omega)];simp
 | c::l,o+1,vs,h=>by
  simp only[aY];rw[fillAt_eq l o vs (by simp at h;omega)]
  simp[Nat.add_right_comm]
theorem VRs.take {a:List Value} {c:List AV} (r:VRs G w a c) (n:Nat):VRs G w (a.take n) (c.take n):=by
 refine⟨by simp[r.1],fun i u x hu hx => ?_⟩
 rw[List.getElem?_take]at hu hx
 split at hu
 ·rename_i hi;rw[if_pos hi]at hx;exact r.2 i u x hu hx
 ·cases hu
theorem VRs.drop {a:List Value} {c:List AV} (r:VRs G w a c) (n:Nat):VRs G w (a.drop n) (c.drop n):=by
 refine⟨by simp[r.1],fun i u x hu hx => ?_⟩
 rw[List.getElem?_drop]at hu hx
 exact r.2 _ u x hu hx
structure OnlyAt (w w':World) (b:Nat):Prop where
 os:w'.os=w.os
 tape:w'.tape=w.tape
 output:w'.output=w.output
 size:w'.heap.size=w.heap.size
 other:∀ c,c≠b→w'.heap[c]?=w.heap[c]?
theorem put_ext' (I:Inv G w h) {id b:Nat} (h0:G.fr b=some 0) (hw:G.ow b=some id) (hm:¬ (G.ρ id=none∧G.cv id=none)) (o:Obj) {w':World} (W:OnlyAt w w' b):Ext G w h G w' (h.put id o) where
 os:=W.os
 tape:=W.tape
 output:=W.output
 size:=Nat.le_of_eq W.size.symm
 base:=rfl
 still:=fun c hc hf=>by
  have hne:c≠b:=by rintro rfl;rw[h0]at hf;cases hf
  exact⟨W.other c hne,hf⟩
 part:=fun c k q v hf ho hv=>by
  have hne:c≠b:=by
   rintro rfl
   rw[h0]at hf
   simp only[Option.some.injEq]at hf
   omega
  exact⟨(World.cell?_of_block (w:=w) (a:=⟨c,q,none⟩) (W.other c hne)).trans hv,.inr ⟨k,hf,ho⟩⟩
 ρ:=fun _ _ h=>h
 cv:=fun _ n v h=>⟨n,v,h,Nat.le_refl _,fun _=>rfl⟩
 nx:=Nat.le_refl _
 unm:=fun j _ a b'=>by
  have hne:j≠id:=by rintro rfl;exact hm ⟨a,b'⟩
  exact⟨T.aD _ _ hne,a,b'⟩
 own:=fun c hc ho=>by
  have hne:c≠b:=by rintro rfl;rw[hw]at ho;cases ho
  exact⟨W.other c hne,rfl,ho⟩
theorem put_ext (I:Inv G w h) {id b:Nat} (hr:G.ρ id=some b) (o:Obj) {w':World} (W:OnlyAt w w' b):Ext G w h G w' (h.put id o):=
 put_ext' I (I.obj id b hr).2.1 (I.obj id b hr).2.2.1 (by rintro⟨e,_⟩;rw[hr]at e;cases e) o W
theorem put_inv (I:Inv G w h) {id b:Nat} (hr:G.ρ id=some b) (o:Obj) {w':World} (W:OnlyAt w w' b) (ho:ObjR G w (some o) w'.heap[b]?):Inv G w' (h.put id o):=by
 have E:=put_ext I hr o W
 obtain⟨hi,hf,hw,_⟩:=I.obj id b hr
 refine⟨fun j q hq => ?_,fun c k hc=>by have:=I.frb c k hc;exact⟨this.1,by rw[W.size];exact this.2⟩,by rw[W.size];exact I.bas,fun j c hj => ?_,fun j n v hc => ?_,I.ka.mono E⟩
 ·by_cases e:j=id
  ·subst e;exact hi
  ·exact I.wf j q (by rw[←hq];exact(T.aD _ _ e).symm)
 ·obtain⟨h1,h2,h3,h4⟩:=I.obj j c hj
  refine⟨h1,h2,h3,?_⟩
  by_cases e:j=id
  ·subst e
   rw[hr]at hj
   simp only[Option.some.injEq]at hj
   subst hj
   have:(h.put j o).t.get j=some o:=T.bO _ _ _
   rw[this]
   exact ho.mono E
  ·have hne:c≠b:=by
    rintro rfl
    rw[hw]at h3
    simp only[Option.some.injEq]at h3
    exact e h3.symm
   have:(h.put id o).t.get j=h.t.get j:=T.aD _ _ e
   rw[this,W.other c hne]
   exact h4.mono E
 ·obtain⟨h1,g,e,size,xs,cap,k,h2,h3,h4,h5,h6,h7⟩:=I.chn j n v hc
  have hne:g≠b:=by
   rintro rfl
   rw[hw]at h6
   simp only[Option.some.injEq]at h6
   subst h6
   exact h2.no_obj (I.obj id g hr).2.2.2
  have hj:j≠id:=by
   rintro rfl
   exact h2.no_obj (I.obj j b hr).2.2.2
  refine⟨h1,g,e,size,xs,cap,k,by rw[show(h.put id o).t.get j=h.t.get j from T.aD _ _ hj];exact h2.mono E,h3,?_,h5,h6,h7⟩
  refine h4.kept (row:=some b) ⟨W.os,W.tape,W.output,Nat.le_of_eq W.size.symm,fun k _ hk=>W.other k (fun e=>hk (by rw[e]))⟩ (.inr ?_)
  subst h3
  simp[Value.ownBlock,hne]
theorem onlyAt_setRow {b:Nat} {cur cs:Array Value} {e:Nat} {fz:Nat × Nat} (hb:w.heap[b]?=some (.cells cur e fz)):OnlyAt w (w.setRow b cs) b:=
 ⟨rfl,rfl,rfl,by simp[World.setRow],fun c hc=>setRow_other w b c cs (fun e=>hc e)⟩
theorem store_sim (I:Inv G w h) {t:Nat} {inf:TypeInfo} (hi:P.info? t=some inf) {id b off:Nat} {cs:List AV} (hr:G.ρ id=some b) (ho:h.t.get id=some (.cells cs))
  {V:Value} {v:AV} (hv:VR G w V v) (hsz:v.cells.length=inf.size) (hfit:off+inf.size≤cs.length) (hone:bB v.cells=true) :
  ∃ w',(Instr.storeAt t (.pointer (some ⟨b,off,none⟩)) V).run P w = .ok () w'∧Inv G w' (h.put id (.cells (aY cs off v.cells)))∧Ext G w h G w' (h.put id (.cells (aY cs off v.cells))):=by
 obtain⟨c,e,hb,hc⟩:=I.cells hr ho
 have hcl:=hc.1
 simp at hcl
 have hcv:=hv.cells
 have hvl:V.cells.size=inf.size:=by have:=hcv.1;simp at this;omega
 have h1:∀ u∈V.cells.toList,u.oneCell'=true:=by
  intro u hu
  obtain⟨i,hi'⟩:=List.getElem?_of_mem hu
  have hil:i<v.cells.length:=by rw[←hcv.1];exact aI hi'
  obtain⟨x,hx⟩:∃ x,v.cells[i]?=some x:=⟨_,List.getElem?_eq_getElem hil⟩
  refine(hcv.2 i u x hi' hx).one ?_
  have:∀ (l:List AV),bB l=true→∀ (i:Nat) x,l[i]?=some x→x.one=true:=by
   intro l
   induction l with
   | nil=>intro _ i x hx;simp at hx
   | cons a l ih=>
    intro hl i x hx
    simp only[bB,Bool.and_eq_true]at hl
    cases i with
    | zero=>simp at hx;subst hx;exact hl.1
    | succ i=>simp at hx;exact ih hl.2 i x hx
  exact this _ hone i x hx
 have hst:=run_storeCells_at P b off e V.cells.toList 0 c w hb (by simp;omega) h1
 simp only[Nat.add_zero]at hst
 have W:OnlyAt w (w.setRow b (c.toList.take off++V.cells.toList++c.toList.drop (off+V.cells.toList.length)).toArray) b:=onlyAt_setRow hb
 refine⟨_,?_,put_inv I hr _ W ?_,put_ext I hr _ W⟩
 ·unfold Instr.storeAt Instr.sureAddr storeVar
  simp only[Sem.run_bind,Sem.run_pure,Result.andThen_ok,run_sizeOf hi,hvl,ne_eq,not_true_eq_false,if_false,hst]
 ·rw[setRow_heap w b c _ e _ hb]
  refine⟨rfl,?_⟩
  rw[fillAt_eq cs off v.cells (by omega)]
  have e1:off+V.cells.toList.length=off+v.cells.length:=by rw[hcv.1]
  rw[e1]
  exact((hc.take off).append hcv).append (hc.drop _)
theorem Inv.row (I:Inv G w h) {id len b:Nat} {p:Nat→Prop} (r:RowR G id len b p) {e s:Nat} {cs:List AV} (ho:h.t.get id=some (.row len e s cs)) :
  ∃ cur cap,w.heap[b]?=some (.cells cur e (0,0))∧G.cv id=some (len,.slice (some ⟨b,0,none⟩) len cap)∧p cap∧G.base≤b∧len≤cap∧cap≤maxLen∧cur.size=cap*s∧VRs G w (cur.toList.take (len*s)) cs ∧
   G.fr b=some 0∧G.ow b=some id∧0<s∧id<h.nx:=by
 obtain⟨n,v',h1,h2,h3⟩:=r
 obtain⟨j1,g,e',s',xs,cap,k,j2,j3,j4,j5,j6,j7⟩:=I.chn id n v' h1
 rw[ho]at j2
 rcases j2 with ⟨j2,_⟩|⟨cs',j2,rfl,jv⟩
 ·simp at j2
 ·simp only[Option.some.injEq,Obj.row.injEq]at j2
  obtain⟨rfl,rfl,rfl,rfl⟩:=j2
  obtain⟨cap',e1,hp⟩:=h3 rfl
  rw[j3]at e1
  simp only[Value.slice.injEq,Option.some.injEq,Addr.mk.injEq,and_true,true_and]at e1
  obtain⟨rfl,rfl⟩:=e1
  obtain⟨jl,jr⟩:=j4
  rcases jr with ⟨jn,_⟩|⟨g0,cap0,cur,jv0,jb,jh,jc1,jc2,jc3,jt⟩
  ·rw[j3]at jn;simp at jn
  ·rw[j3]at jv0
   simp only[Value.slice.injEq,Option.some.injEq,Addr.mk.injEq,and_true,true_and]at jv0
   obtain⟨rfl,rfl⟩:=jv0
   exact⟨cur,cap,jh,by rw[h1,j3],hp,jb,jc1,jc2,jc3,by rw[jt];exact jv,j5,j6,j7,j1⟩
theorem load_row (I:Inv G w h) {t:Nat} {inf:TypeInfo} {d:TypeDesc} (hi:P.info? t=some inf) (hd:P.underlying t=some d) {id len b off e s:Nat} {p:Nat→Prop} {cs:List AV}
  (r:RowR G id len b p) (ho:h.t.get id=some (.row len e s cs)) {v:AV} (hv:aV (isAggD d) inf.size cs off=some v) :
  ∃ V,(Instr.loadAt t (.pointer (some ⟨b,off,none⟩))).run P w = .ok V w∧VR G w V v:=by
 obtain⟨cur,cap,hb,_,_,_,hle,_,hsz,hc,_⟩:=I.row r ho
 have hcl:cs.length≤cur.size:=by have:=hc.1;rw[List.length_take]at this;simp at this;omega
 refine load_sim hi hd b off (cs.drop off) (fun j=>cur.getD (off+j) undef) (fun j hj => ?_) (fun j x hx => ?_) (readAt_drop hv)
 ·rw[cell_at hb]
  have:off+j<cur.size:=by simp at hj;omega
  simp[this]
 ·rw[List.getElem?_drop]at hx
  have hl:=aI hx
  have h1:off+j<cur.size:=by omega
  refine hc.2 (off+j) _ x ?_ hx
  have h2:off+j<len*s:=by have:=hc.1;rw[List.length_take]at this;omega
  rw[List.getElem?_take_of_lt h2]
  simp[h1]
theorem take_fill {α:Type} (l v:List α) (off m:Nat) (h:off+v.length≤m) (hm:m≤l.length) :
  (l.take off++v++l.drop (off+v.length)).take m=(l.take m).take off++v++(l.take m).drop (off+v.length):=by
 have e:(l.take off++v).length=off+v.length:=by simp;omega
 rw[List.take_append,e,List.take_of_length_le (by omega),List.drop_take,List.take_take,Nat.min_eq_left (by omega)]
theorem ones_cells {V:Value} {v:AV} (hv:VR G w V v) (hone:bB v.cells=true):∀ u∈V.cells.toList,u.oneCell'=true:=by
 intro u hu
 have hcv:=hv.cells
 obtain⟨i,hi'⟩:=List.getElem?_of_mem hu
 have hil:i<v.cells.length:=by rw[←hcv.1];exact aI hi'
 obtain⟨x,hx⟩:∃ x,v.cells[i]?=some x:=⟨_,List.getElem?_eq_getElem hil⟩
 refine(hcv.2 i u x hi' hx).one ?_
 have:∀ (l:List AV),bB l=true→∀ (i:Nat) x,l[i]?=some x→x.one=true:=by
  intro l
  induction l with
  | nil=>intro _ i x hx;simp at hx
  | cons a l ih=>
   intro hl i x hx
   simp only[bB,Bool.and_eq_true]at hl
   cases i with
   | zero=>simp at hx;subst hx;exact hl.1
   | succ i=>simp at hx;exact ih hl.2 i x hx
 exact this _ hone i x hx
theorem write_row (I:Inv G w h) {id len b off e s:Nat} {p:Nat→Prop} {cs:List AV} (r:RowR G id len b p) (ho:h.t.get id=some (.row len e s cs))
  {news:List Value} {ys:List AV} (hcv:VRs G w news ys) (hfit:off+ys.length≤cs.length) {cur:Array Value} (hb:w.heap[b]?=some (.cells cur e (0,0))) :
  off+news.length≤cur.size∧Inv G (w.setRow b (cur.toList.take off++news++cur.toList.drop (off+news.length)).toArray) (h.put id (.row len e s (aY cs off ys))) ∧
   Ext G w h G (w.setRow b (cur.toList.take off++news++cur.toList.drop (off+news.length)).toArray) (h.put id (.row len e s (aY cs off ys))):=by
 obtain⟨cur',cap,hb',hcv0,_,hbase,hle,hcm,hcs,hc,hfr,how,hs,hid⟩:=I.row r ho
 rw[hb]at hb'
 simp only[Option.some.injEq]at hb'
 obtain⟨rfl,_⟩:=hb'
 have hms:len*s≤cur.size:=by rw[hcs];exact Nat.mul_le_mul_right s hle
 have hcl:cs.length=len*s:=by have:=hc.1;rw[List.length_take]at this;simp at this;omega
 have hnl:news.length=ys.length:=hcv.1
 have W:OnlyAt w (w.setRow b (cur.toList.take off++news++cur.toList.drop (off+news.length)).toArray) b:=onlyAt_setRow hb
 have E:=put_ext' I hfr how (by rintro⟨_,e⟩;rw[hcv0]at e;cases e) (.row len e s (aY cs off ys)) W
 have hheap:=setRow_heap w b cur (cur.toList.take off++news++cur.toList.drop (off+news.length)).toArray e _ hb
 refine⟨by omega,⟨fun j q hq => ?_,fun c k hc=>by have:=I.frb c k hc;exact⟨this.1,by rw[W.size];exact this.2⟩,by rw[W.size];exact I.bas,fun j c hj => ?_,fun j n v' hc' => ?_,I.ka.mono E⟩,E⟩
 ·by_cases e:j=id
  ·subst e;exact hid
  ·exact I.wf j q (by rw[←hq];exact(T.aD _ _ e).symm)
 ·obtain⟨q1,q2,q3,q4⟩:=I.obj j c hj
  have hji:j≠id:=by
   rintro rfl
   rw[ho]at q4
   exact q4.elim
  have hne:c≠b:=by
   rintro rfl
   rw[how]at q3
   simp only[Option.some.injEq]at q3
   exact hji q3.symm
  refine⟨q1,q2,q3,?_⟩
  rw[show(h.put id (.row len e s (aY cs off ys))).t.get j=h.t.get j from T.aD _ _ hji,W.other c hne]
  exact q4.mono E
 ·by_cases hj:j=id
  ·subst hj
   rw[hcv0]at hc'
   simp only[Option.some.injEq,Prod.mk.injEq]at hc'
   obtain⟨rfl,rfl⟩:=hc'
   refine⟨hid,b,e,s,_,cap,0,.inr ⟨aY cs off ys,T.bO _ _ _,rfl,?_⟩,rfl,⟨?_,.inr ⟨b,cap,_,rfl,hbase,hheap,hle,hcm,?_,rfl⟩⟩,hfr,how,hs⟩
   ·simp only[]
    rw[take_fill _ _ _ _ (by omega) (by simpa using hms),fillAt_eq cs off ys (by omega)]
    have:=(((hc.take off).append hcv).append (hc.drop (off+news.length))).mono E
    rw[hnl]at this ⊢
    exact this
   ·rw[List.length_take];simp;omega
   ·simp;omega
  ·obtain⟨q1,g,e',sz,xs,cap',k,q2,q3,q4,q5,q6,q7⟩:=I.chn j n v' hc'
   have hne:g≠b:=by
    rintro rfl
    rw[how]at q6
    simp only[Option.some.injEq]at q6
    exact hj q6.symm
   refine⟨q1,g,e',sz,xs,cap',k,by rw[show(h.put id (.row len e s (aY cs off ys))).t.get j=h.t.get j from T.aD _ _ hj];exact q2.mono E,q3,?_,q5,q6,q7⟩
   refine q4.kept (row:=some b) ⟨W.os,W.tape,W.output,Nat.le_of_eq W.size.symm,fun k _ hk=>W.other k (fun e=>hk (by rw[e]))⟩ (.inr ?_)
   subst q3
   simp[Value.ownBlock,hne]
theorem store_row (I:Inv G w h) {t:Nat} {inf:TypeInfo} (hi:P.info? t=some inf) {id len b off e s:Nat} {p:Nat→Prop} {cs:List AV} (r:RowR G id len b p) (ho:h.t.get id=some (.row len e s cs))
  {V:Value} {v:AV} (hv:VR G w V v) (hsz:v.cells.length=inf.size) (hfit:off+inf.size≤cs.length) (hone:bB v.cells=true) :
  ∃ w',(Instr.storeAt t (.pointer (some ⟨b,off,none⟩)) V).run P w = .ok () w'∧Inv G w' (h.put id (.row len e s (aY cs off v.cells)))∧Ext G w h G w' (h.put id (.row len e s (aY cs off v.cells))):=by
 obtain⟨cur,cap,hb,_⟩:=I.row r ho
 have hcv:=hv.cells
 have hvl:V.cells.size=inf.size:=by have:=hcv.1;simp at this;omega
 obtain⟨h0,h2,h3⟩:=write_row I r ho (off:=off) hcv (by omega) hb
 have hst:=run_storeCells_at P b off e V.cells.toList 0 cur w hb (by simpa using h0) (ones_cells hv hone)
 simp only[Nat.add_zero]at hst
 refine⟨_,?_,h2,h3⟩
 unfold Instr.storeAt Instr.sureAddr storeVar
 simp only[Sem.run_bind,Sem.run_pure,Result.andThen_ok,run_sizeOf hi,hvl,ne_eq,not_true_eq_false,if_false,hst]
end
end Go.Ev
namespace Go.Ev
variable [Inhabited KA0] [MT]
theorem i64lo_spec {n:Int} (h:i64lo n=true) : -9223372036854775808≤n∧n<9223372036854775808:=by
 cases n with
 | ofNat m=>simp only[i64lo,cR]at h;simp only[Int.ofNat_eq_natCast];constructor<;>omega
 | negSucc m=>simp only[i64lo,cR]at h;constructor<;>omega
theorem eX {n:Int} (h1 : -9223372036854775808≤n) (h2:n<9223372036854775808):IntKind.wrap .i64 n=n:=by
 unfold IntKind.wrap
 have e:(2 ^ IntKind.bits .i64:Int)=18446744073709551616:=by decide
 have e2:(2 ^ (IntKind.bits .i64-1):Int)=9223372036854775808:=by decide
 have e3:IntKind.signed .i64=true:=rfl
 simp only[e,e2,e3,Bool.true_and,ge_iff_le,decide_eq_true_eq]
 split<;>omega
theorem wr_eq (k:IntKind) (n:Int):wr k n=k.wrap n:=by
 unfold wr
 split
 ·cases h:i64lo n with
  | true=>rw[cond_true];obtain⟨a,b⟩:=i64lo_spec h;exact(eX a b).symm
  | false=>rfl
 ·rfl
theorem dI (a b:Int):ltI a b=decide (a<b):=by
 cases a<;>cases b<;>simp only[ltI]
 ·rename_i m n
  by_cases h:m<n
  ·rw[cR.2 h];symm;simp;omega
  ·rw[blt_no h];symm;simp;omega
 ·symm;simp;omega
 ·symm;simp;omega
 ·rename_i m n
  by_cases h:n<m
  ·rw[cR.2 h];symm;simp;omega
  ·rw[blt_no h];symm;simp;omega
theorem bytesOf_eq (a b:ByteArray):(bytesOf a==bytesOf b)=(a.toList==b.toList):=by
 rw[ByteArray.toList_eq,ByteArray.toList_eq]
 unfold bytesOf
 by_cases h:a.data.toList=b.data.toList
 ·rw[h];simp
 ·have:¬ a.data.toList.map (·.toNat)=b.data.toList.map (·.toNat):=fun e=>h ((List.map_inj_right (fun x y hxy=>UInt8.toNat_inj.1 hxy)).1 e)
  rw[beq_eq_false_iff_ne.2 h,beq_eq_false_iff_ne.2 this]
theorem nLess_eq:∀ (a b:List UInt8),cO (a.map (·.toNat)) (b.map (·.toNat))=Op.bytesLess a b
 | a,[]=>by cases a<;>rfl
 | [],_::_=>rfl
 | x::a,y::b=>by
  simp only[List.map_cons,cO,Op.bytesLess,nLess_eq a b]
  congr 1
  ·by_cases h:x<y
   ·rw[cR.2 (UInt8.lt_iff_toNat_lt.1 h)];simp[h]
   ·rw[blt_no (fun e=>h (UInt8.lt_iff_toNat_lt.2 e))];simp[h]
  ·congr 1
   by_cases h:x=y
   ·subst h;simp
   ·rw[beq_no (fun e=>h (UInt8.toNat_inj.1 e))];simp[h]
theorem bytesOf_append (a b:ByteArray):bytesOf (a++b)=bytesOf a++bytesOf b:=by
 unfold bytesOf
 simp
theorem fP (a:ByteArray):(bytesOf a).length=a.size:=by
 unfold bytesOf
 simp
section
variable {P:Program} {G:Gh} {w:World} {h:H}
theorem evInt_sim {op:BinOp} {k:IntKind} {a b:Int} {v:AV} (hv:bP op k a b=some v) (t:Nat) :
  ∃ V,(binOp op t (.int k a) (.int k b)).run P w = .ok V w∧VR G w V v:=by
 unfold bP at hv
 cases op<;>simp only[Option.some.injEq,reduceCtorEq]at hv
 case quo=>
  cases hb:aE b 0 with
  | true=>rw[hb]at hv;simp at hv
  | false=>
   rw[hb]at hv
   simp only[cond_false,Option.some.injEq]at hv
   subst hv
   have h0:¬ b=0:=fun e=>by subst e;simp[bU]at hb
   exact⟨.int k (k.wrap (a.tdiv b)),by simp[binOp,Op.intDiv,h0],by rw[wr_eq];exact .int _ _⟩
 case rem=>
  cases hb:aE b 0 with
  | true=>rw[hb]at hv;simp at hv
  | false=>
   rw[hb]at hv
   simp only[cond_false,Option.some.injEq]at hv
   subst hv
   have h0:¬ b=0:=fun e=>by subst e;simp[bU]at hb
   exact⟨.int k (a.tmod b),by simp[binOp,Op.intDiv,h0],.int _ _⟩
 all_goals subst hv
 case and=>exact⟨.int k (k.wrap (BitVec.ofInt k.bits a &&& BitVec.ofInt k.bits b).toNat),by simp only[binOp,Op.intBits,ne_eq,not_true_eq_false,if_false,Sem.run_pure],by rw[wr_eq];exact .int _ _⟩
 case or=>exact⟨.int k (k.wrap (BitVec.ofInt k.bits a ||| BitVec.ofInt k.bits b).toNat),by simp only[binOp,Op.intBits,ne_eq,not_true_eq_false,if_false,Sem.run_pure],by rw[wr_eq];exact .int _ _⟩
 case xor=>exact⟨.int k (k.wrap (BitVec.ofInt k.bits a ^^^ BitVec.ofInt k.bits b).toNat),by simp only[binOp,Op.intBits,ne_eq,not_true_eq_false,if_false,Sem.run_pure],by rw[wr_eq];exact .int _ _⟩
 case add=>exact⟨.int k (k.wrap (a+b)),by simp[binOp,Op.intArith],by rw[wr_eq];exact .int _ _⟩
 case sub=>exact⟨.int k (k.wrap (a-b)),by simp[binOp,Op.intArith],by rw[wr_eq];exact .int _ _⟩
 case mul=>exact⟨.int k (k.wrap (a*b)),by simp[binOp,Op.intArith],by rw[wr_eq];exact .int _ _⟩
 case eql=>exact⟨.bool (a==b),by simp[binOp,Op.intCmp],by rw[bU];exact .bool _⟩
 case neq=>exact⟨.bool (a != b),by simp[binOp,Op.intCmp],by rw[bU];exact .bool _⟩
 case lss=>exact⟨.bool (decide (a<b)),by simp[binOp,Op.intCmp],by rw[dI];exact .bool _⟩
 case leq=>exact⟨.bool (decide (a≤b)),by simp[binOp,Op.intCmp],by
  have:(!ltI b a)=decide (a≤b):=by rw[dI];by_cases h:b<a<;>simp[h]<;>omega
  rw[this];exact .bool _⟩
 case gtr=>exact⟨.bool (decide (a > b)),by simp[binOp,Op.intCmp],by rw[dI];exact .bool _⟩
 case geq=>exact⟨.bool (decide (a≥b)),by simp[binOp,Op.intCmp],by
  have:(!ltI a b)=decide (a≥b):=by rw[dI];by_cases h:a<b<;>simp[h]<;>omega
  rw[this];exact .bool _⟩
theorem evShift_sim {op:BinOp} {k j:IntKind} {a b:Int} {v:AV} (hv:evShift op k a b=some v) (t:Nat) :
  ∃ V,(binOp op t (.int k a) (.int j b)).run P w = .ok V w∧VR G w V v:=by
 unfold evShift at hv
 split at hv
 ·rename_i n
  simp only[Option.some.injEq]at hv
  subst hv
  refine⟨.int k (k.wrap (a*2 ^ (min n k.bits))),?_,by rw[wr_eq];exact(by simpa using VR.int (G:=G) (w:=w) k (k.wrap (a*2 ^ (min n k.bits))))⟩
  simp[binOp,Op.shift]
  intro h
  omega
 ·rename_i n
  simp only[Option.some.injEq]at hv
  subst hv
  refine⟨.int k (a.fdiv (2 ^ (min n k.bits))),?_,by simpa using VR.int (G:=G) (w:=w) k (a.fdiv (2 ^ (min n k.bits)))⟩
  simp[binOp,Op.shift]
  intro h
  omega
 ·simp at hv
theorem evStr_sim {op:BinOp} {a b:ByteArray} {v:AV} (hv:cP op (bytesOf a) (bytesOf b)=some v) (t:Nat) :
  ∃ V,(binOp op t (.string a) (.string b)).run P w = .ok V w∧VR G w V v:=by
 have hlt:cO (bytesOf a) (bytesOf b)=Op.bytesLess a.toList b.toList:=by rw[ByteArray.toList_eq,ByteArray.toList_eq];exact nLess_eq _ _
 have heq:aB (bytesOf a) (bytesOf b)=(a.toList==b.toList):=by rw[fX,bytesOf_eq]
 unfold cP at hv
 cases op<;>simp only[Option.some.injEq,reduceCtorEq]at hv
 case add=>
  cases hc:Nat.ble ((bytesOf a).length+(bytesOf b).length) 140737488355328 with
  | false=>rw[hc]at hv;simp at hv
  | true=>
   rw[hc]at hv
   simp only[cond_true,Option.some.injEq]at hv
   subst hv
   have hle:(bytesOf a).length+(bytesOf b).length≤140737488355328:=Nat.le_of_ble_eq_true hc
   rw[fP,fP]at hle
   refine⟨.string (a++b),?_,by rw[←bytesOf_append];exact .str _⟩
   have hmax:¬ (((a.size+b.size:Nat):Int) > IntKind.i64.max):=by
    have:IntKind.i64.max=9223372036854775807:=by decide
    rw[this];omega
   simp only[binOp,Op.stringOp,hmax,if_false,Sem.run_pure]
 all_goals subst hv
 case eql=>exact⟨_,by simp only[binOp,Op.stringOp,Sem.run_pure];rfl,by rw[heq];exact .bool _⟩
 case neq=>exact⟨_,by simp only[binOp,Op.stringOp,Sem.run_pure];rfl,by rw[heq];exact .bool _⟩
 case lss=>exact⟨_,by simp only[binOp,Op.stringOp,Sem.run_pure];rfl,by rw[hlt];exact .bool _⟩
 case leq=>exact⟨_,by simp only[binOp,Op.stringOp,Sem.run_pure];rfl,by rw[hlt,heq];exact .bool _⟩
 case gtr=>exact⟨_,by simp only[binOp,Op.stringOp,Sem.run_pure];rfl,by rw[hlt,heq];exact .bool _⟩
 case geq=>exact⟨_,by simp only[binOp,Op.stringOp,Sem.run_pure];rfl,by rw[hlt];exact .bool _⟩
theorem evEq_sim' (n:Nat) {t:Nat} {d:TypeDesc} (hd:P.underlying t=some d) {x y:Value} {a b:AV} (hx:VR G w x a) (hy:VR G w y b) {r:Bool} (hr:evEq (kindOf P d) a b=some r) :
  (Op.equalIn (n+1) t x y).run P w = .ok r w:=by
 generalize hk:kindOf P d=kk at hr
 unfold evEq at hr
 split at hr
 ·have:=kind_bool hk.symm
  subst this
  simp only[Option.some.injEq]at hr
  subst hr
  cases hx;cases hy
  simp[Op.equalIn,bL hd]
 ·have:=kind_ptr hk.symm
  subst this
  simp only[Option.some.injEq]at hr
  subst hr
  cases hx
  cases hy<;>simp[Op.equalIn,bL hd]
 ·have:=kind_ptr hk.symm
  subst this
  simp only[Option.some.injEq]at hr
  subst hr
  cases hx;cases hy
  simp[Op.equalIn,bL hd]
 ·obtain⟨m,rfl⟩:=kind_iface hk.symm
  simp only[Option.some.injEq]at hr
  subst hr
  cases hx;cases hy
  simp[Op.equalIn,bL hd]
 ·obtain⟨m,rfl⟩:=kind_iface hk.symm
  simp only[Option.some.injEq]at hr
  subst hr
  cases hx;cases hy
  simp[Op.equalIn,bL hd]
 ·simp at hr
theorem evEq_sim {t:Nat} {d:TypeDesc} (hd:P.underlying t=some d) {x y:Value} {a b:AV} (hx:VR G w x a) (hy:VR G w y b) {r:Bool} (hr:evEq (kindOf P d) a b=some r) :
  (Op.equal t x y).run P w = .ok r w:=evEq_sim' 9999 hd hx hy hr
theorem eqFlat_some {t:Nat} {l:List (Nat × Nat)} (h:eqFlat P t=some l):P.underlying t=some (.struct (P.fieldsOf t))∧(P.stoodInHeld t=false∧P.eqGuardType P.depth t=false)∧all0 (eqField P) (P.fieldsOf t).toList=some l:=by
 unfold eqFlat at h
 split at h
 ·rename_i fs hu
  have hf:P.fieldsOf t=fs:=by simp[Program.fieldsOf,hu]
  split at h
  ·rename_i h1 h2
   exact⟨by rw[hf];exact hu,⟨h1,h2⟩,by rw[hf];exact h⟩
  ·simp at h
 ·simp at h
theorem eqField_some {f:Field} {p:Nat × Nat} (h:eqField P f=some p):f.name ≠ "_"∧∃ i d,P.info? f.type=some i∧P.underlying f.type=some d∧isAggD d=false∧p.1=f.offset ∧
  ((p.2=0∧∃ k,d = .int k)∨(p.2=1∧d = .string)∨(p.2=2∧d = .bool)):=by
 unfold eqField at h
 split at h
 ·rename_i i k h1 h2 h3
  cases hb:Nat.beq i.size 1 with
  | false=>rw[hb]at h;simp at h
  | true=>
   rw[hb]at h
   simp only[cond_true,Option.some.injEq]at h
   subst h
   exact⟨by simpa using h1,i,_,h2,h3,rfl,rfl,.inl ⟨rfl,k,rfl⟩⟩
 ·rename_i i h1 h2 h3
  cases hb:Nat.beq i.size 1 with
  | false=>rw[hb]at h;simp at h
  | true=>
   rw[hb]at h
   simp only[cond_true,Option.some.injEq]at h
   subst h
   exact⟨by simpa using h1,i,_,h2,h3,rfl,rfl,.inr (.inl ⟨rfl,rfl⟩)⟩
 ·rename_i i h1 h2 h3
  cases hb:Nat.beq i.size 1 with
  | false=>rw[hb]at h;simp at h
  | true=>
   rw[hb]at h
   simp only[cond_true,Option.some.injEq]at h
   subst h
   exact⟨by simpa using h1,i,_,h2,h3,rfl,rfl,.inr (.inr ⟨rfl,rfl⟩)⟩
 ·simp at h
theorem cellEq_str {x y:AV} {q:Bool} (h:cellEq 1 x y=some q):∃ a b,x = .str a∧y = .str b∧q=aB a b:=by
 unfold cellEq at h
 split at h
 ·simp_all
 ·exact⟨_,_,rfl,rfl,by simpa using h.symm⟩
 ·simp_all
 ·simp at h
theorem cellEq_bool {x y:AV} {q:Bool} (h:cellEq 2 x y=some q):∃ a b,x = .bool a∧y = .bool b∧q=(a==b):=by
 unfold cellEq at h
 split at h
 ·simp_all
 ·simp_all
 ·exact⟨_,_,rfl,rfl,by simpa using h.symm⟩
 ·simp at h
theorem evFlat_sim {xs ys:Array Value} {ca cb:List AV} (hx:xs.size=ca.length) (hx1:∀ (i:Nat) v x,xs[i]?=some v→ca[i]?=some x→VR G w v x)
  (hy:ys.size=cb.length) (hy1:∀ (i:Nat) v x,ys[i]?=some v→cb[i]?=some x→VR G w v x):∀ (fs:List Field) {l:List (Nat × Nat)} {r:Bool},all0 (eqField P) fs=some l→evFlat l ca cb=some r→(Op.eqFields 9999 xs ys fs).run P w = .ok r w
 | [],l,r,h,hr=>by
  simp[all0]at h
  subst h
  simp[evFlat]at hr
  subst hr
  simp[Op.eqFields]
 | f::fs,l,r,h,hr=>by
  simp only[all0]at h
  split at h
  ·simp at h
  ·rename_i p hp
   split at h
   ·simp at h
   ·rename_i m hm
    simp only[Option.some.injEq]at h
    subst h
    obtain⟨off,c⟩:=p
    obtain⟨hn,i,d,hi,hd,hag,ho,hc⟩:=eqField_some hp
    simp only at ho hc
    subst ho
    simp only[evFlat]at hr
    split at hr
    ·rename_i x y ex ey
     have lx:=aI ex
     have ly:=aI ey
     rw[←hx]at lx
     rw[←hy]at ly
     have vx:=hx1 f.offset xs[f.offset] x (Array.getElem?_eq_getElem lx) ex
     have vy:=hy1 f.offset ys[f.offset] y (Array.getElem?_eq_getElem ly) ey
     have px:(part f.type xs f.offset).run P w = .ok xs[f.offset] w:=by unfold part;simp[run_isAgg hd,hag,Array.getElem?_eq_getElem lx]
     have py:(part f.type ys f.offset).run P w = .ok ys[f.offset] w:=by unfold part;simp[run_isAgg hd,hag,Array.getElem?_eq_getElem ly]
     have hcell:∀ q,cellEq c x y=some q→(Op.equalIn 9999 f.type xs[f.offset] ys[f.offset]).run P w = .ok q w:=by
      intro q hq
      generalize xs[f.offset]=X at vx
      generalize ys[f.offset]=Y at vy
      rcases hc with ⟨rfl,k',rfl⟩|⟨rfl,rfl⟩|⟨rfl,rfl⟩
      ·unfold cellEq at hq
       split at hq
       ·rename_i k a j b _
        cases hk:bK k j with
        | false=>rw[hk]at hq;simp at hq
        | true=>
         rw[hk]at hq
         have:=ikBeq_eq.1 hk
         subst this
         simp only[cond_true,Option.some.injEq]at hq
         cases vx;cases vy
         rw[run_equalIn_int w 9998 f.type k k' a b hd,←hq,bU]
       all_goals simp_all
      ·obtain⟨p,q',rfl,rfl,rfl⟩:=cellEq_str hq
       cases vx;cases vy
       rename_i s1 s2
       rw[run_equalIn_string w 9998 f.type s1 s2 hd,fX,bytesOf_eq]
      ·obtain⟨p,q',rfl,rfl,rfl⟩:=cellEq_bool hq
       cases vx;cases vy
       rw[run_equalIn_bool' w 9998 f.type _ _ hd]
     cases hq:cellEq c x y with
     | none=>rw[hq]at hr;simp at hr
     | some q=>
      rw[hq]at hr
      simp only[Op.eqFields,hn,ne_eq,not_false_eq_true,if_true,Sem.run_bind,px,py,Result.andThen_ok,hcell q hq]
      cases q with
      | false=>simp only[Option.some.injEq]at hr;subst hr;simp
      | true=>simpa using evFlat_sim hx hx1 hy hy1 fs hm hr
    ·simp at hr
theorem evBin_sim {ty:Nat→Option TyI} (hT:TyOk P ty) {op:BinOp} {t:Nat} {x y:Value} {a b:AV} (hx:VR G w x a) (hy:VR G w y b) {v:AV} (hv:bN ty op t a b=some v) (ox oy:Operand) :
  ∃ V,(do eqGuard op t ox oy x y;binOp op t x y:Sem Value).run P w = .ok V w∧VR G w V v:=by
 unfold bN at hv
 split at hv
 ·rename_i k p j q
  cases hsh:aP op with
  | true=>
   rw[hsh]at hv
   simp only[cond_true]at hv
   cases hx;cases hy
   obtain⟨V,h1,h2⟩:=evShift_sim (P:=P) (G:=G) (w:=w) (j:=j) hv t
   refine⟨V,?_,h2⟩
   have hg:(eqGuard op t ox oy (.int k p) (.int j q)).run P w = .ok () w:=by unfold eqGuard;cases op<;>simp
   simp only[Sem.run_bind,hg,Result.andThen_ok,h1]
  | false=>
  rw[hsh]at hv
  simp only[cond_false]at hv
  cases hk:bK k j with
  | false=>rw[hk]at hv;simp at hv
  | true=>
   rw[hk]at hv
   have:=ikBeq_eq.1 hk
   subst this
   cases hx;cases hy
   obtain⟨V,h1,h2⟩:=evInt_sim (P:=P) (G:=G) (w:=w) hv t
   refine⟨V,?_,h2⟩
   have hg:(eqGuard op t ox oy (.int k p) (.int k q)).run P w = .ok () w:=by unfold eqGuard;cases op<;>simp
   simp only[Sem.run_bind,hg,Result.andThen_ok,h1]
 ·rename_i p q
  cases hx;cases hy
  obtain⟨V,h1,h2⟩:=evStr_sim (P:=P) (G:=G) (w:=w) hv t
  refine⟨V,?_,h2⟩
  rename_i s1 s2
  have hg:(eqGuard op t ox oy (.string s1) (.string s2)).run P w = .ok () w:=by unfold eqGuard;cases op<;>simp
  simp only[Sem.run_bind,hg,Result.andThen_ok,h1]
 ·rename_i ca cb
  cases hty:ty t with
  | none=>rw[hty]at hv;simp at hv
  | some i=>
   rw[hty]at hv
   simp only at hv
   cases hef:i.eqf with
   | none=>rw[hef]at hv;simp at hv
   | some l=>
    rw[hef]at hv
    simp only at hv
    cases hx with
    | agg xs _ hxa hx1=>
    cases hy with
    | agg ys _ hya hy1=>
    obtain⟨ht1,ht2,ht3⟩:=eqFlat_some ((tyOf_eqf (hT t i hty)).symm.trans hef)
    have hq:∀ r,evFlat l ca cb=some r→(Op.equalIn 10000 t (.agg xs) (.agg ys)).run P w = .ok r w:=fun r hr=>by
     rw[run_equalIn_struct w 9999 t xs ys ht1 ht2.1]
     exact evFlat_sim hxa hx1 hya hy1 _ ht3 hr
    have hg:(eqGuard op t ox oy (.agg xs) (.agg ys)).run P w = .ok () w:=run_eqGuard_agg w op t ox oy xs ys ht2.2
    cases op<;>simp only[reduceCtorEq]at hv
    case eql=>
     obtain⟨r,hr,rfl⟩:=Option.map_eq_some_iff.1 hv
     exact⟨.bool r,by simp only[Sem.run_bind,hg,Result.andThen_ok,run_eql_struct,hq r hr],.bool r⟩
    case neq=>
     obtain⟨r,hr,rfl⟩:=Option.map_eq_some_iff.1 hv
     exact⟨.bool (!r),by simp only[Sem.run_bind,hg,Result.andThen_ok,run_neq_struct,hq r hr],.bool _⟩
 ·rename_i hni hns hna
  cases hty:ty t with
  | none=>rw[hty]at hv;simp at hv
  | some i=>
   rw[hty]at hv
   obtain⟨inf,d,hi,hd,hkd,_⟩:=bM (hT t i hty)
   have hcase:∀ r,evEq i.kind a b=some r→(Op.equal t x y).run P w = .ok r w∧(∀ op,(op = .eql∨op = .neq)→(eqGuard op t ox oy x y).run P w = .ok () w)∧((binOp .eql t x y)=(do pure (.bool (←Op.equal t x y))))∧((binOp .neq t x y)=(do pure (.bool (!(←Op.equal t x y))))):=by
    intro r hr
    refine⟨evEq_sim hd hx hy (by rw[←hkd];exact hr),?_⟩
    unfold evEq at hr
    split at hr
    case h_6=>simp at hr
    all_goals
     cases hx
     cases hy
     all_goals
      refine⟨fun op ho => ?_,?_,?_⟩
      ·rcases ho with rfl|rfl<;>simp[eqGuard]
      ·simp only[binOp]
      ·simp only[binOp]
   cases op<;>simp only[reduceCtorEq]at hv
   case eql=>
    obtain⟨r,hr,rfl⟩:=Option.map_eq_some_iff.1 hv
    obtain⟨h1,h2,h3,_⟩:=hcase r hr
    refine⟨.bool r,?_,.bool r⟩
    simp only[Sem.run_bind,h2 .eql (.inl rfl),Result.andThen_ok,h3,h1,Sem.run_pure]
   case neq=>
    obtain⟨r,hr,rfl⟩:=Option.map_eq_some_iff.1 hv
    obtain⟨h1,h2,_,h3⟩:=hcase r hr
    refine⟨.bool (!r),?_,.bool _⟩
    simp only[Sem.run_bind,h2 .neq (.inr rfl),Result.andThen_ok,h3,h1,Sem.run_pure]
theorem evNil_sim {ty:Nat→Option TyI} (hT:TyOk P ty) {op:BinOp} {t:Nat} {ox oy:Operand} {x y:Value} {a b:AV} (hx:VR G w x a) (hy:VR G w y b) (hn:aU ox oy a b=true) {v:AV} (hv:evNil ty op t=some v) :
  ∃ V,(do eqGuard op t ox oy x y;binOp op t x y:Sem Value).run P w = .ok V w∧VR G w V v:=by
 unfold aU at hn
 split at hn
 ·cases hx
  cases hy
  unfold evNil at hv
  split at hv
  ·rename_i hty
   obtain⟨inf,d,hi,hd,hkd,_⟩:=bM (hT t _ hty)
   obtain⟨m,rfl⟩:=kind_iface hkd
   have k:∀ n:Nat,(Op.equalIn (n+1) t .nilIface .nilIface).run P w = .ok true w:=fun n=>by simp[Op.equalIn,bL hd]
   have he:(Op.equal t .nilIface .nilIface).run P w = .ok true w:=k 9999
   have hc:((ox matches .const _)||(oy matches .const _))=true:=by
    rw[Bool.or_eq_true]at hn ⊢
    rcases hn with h|h
    ·left;cases ox<;>simp[isConst]at h ⊢
    ·right;cases oy<;>simp[isConst]at h ⊢
   have hg:∀ op',(eqGuard op' t ox oy .nilIface .nilIface).run P w = .ok () w:=by
    intro op'
    cases ox<;>cases oy<;>cases op'<;>first|(simp[eqGuard];done)|(simp[isConst]at hn)
   split at hv
   ·simp only[Option.some.injEq]at hv
    subst hv
    exact⟨.bool true,by simp only[Sem.run_bind,hg,Result.andThen_ok,binOp,he,Sem.run_pure],.bool _⟩
   ·simp only[Option.some.injEq]at hv
    subst hv
    exact⟨.bool false,by simp only[Sem.run_bind,hg,Result.andThen_ok,binOp,he,Sem.run_pure,Bool.not_true],.bool _⟩
   ·cases hv
  ·cases hv
 ·cases hn
end
end Go.Ev
