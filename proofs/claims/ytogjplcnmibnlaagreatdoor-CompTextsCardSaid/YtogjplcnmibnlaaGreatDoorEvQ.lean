/- Each operation of the abstract machine is the model's: append. -/
import Derived.Test.YtogjplcnmibnlaaGreatDoorEvP
import Derived.Deep.AppendSrc
set_option autoImplicit false
set_option linter.unusedSectionVars false
set_option linter.unusedVariables false
set_option linter.unusedSimpArgs false
namespace Go.Ev
variable [Inhabited KA0] [MT]
section
variable {P:Program} {G:Gh} {w:World} {h:H}
theorem VR.sl_at {b off cap s:Nat} {o:Own} {els:List AV} {cells:List Value} (hs:∀ x∈els,x.cells.length=s) (hcell:∀ k v,cells[k]?=some v→Stb G w b (off+k) v) (hc:VRs G w cells (els.flatMap AV.cells))
  (hcap:els.length≤cap) (ho:OwnR G o (.slice (some ⟨b,off,none⟩) els.length cap) els.length cap):VR G w (.slice (some ⟨b,off,none⟩) els.length cap) (.sl o els):=by
 have hlen:cells.length=els.length*s:=by rw[hc.1];exact flat_length _ s els hs
 have hget:∀ i j,i<els.length→j<s→cells[i*s+j]?=some (cells.getD (i*s+j) undef):=by
  intro i j hi hj
  have hlt:i*s+j<cells.length:=by
   rw[hlen]
   have:(i+1)*s≤els.length*s:=Nat.mul_le_mul_right s hi
   rw[Nat.add_mul]at this
   omega
  rw[List.getD_eq_getElem?_getD,List.getElem?_eq_getElem hlt]
  rfl
 refine .sl b off els.length cap s o els (fun i j=>cells.getD (i*s+j) undef) rfl hcap hs (fun i j hi hj => ?_) (fun i j x y hx hy => ?_) ho
 ·have:=hcell _ _ (hget i j hi hj)
  rw[Nat.add_assoc]
  exact this
 ·have hg:=flat_get AV.cells s els hs i j x y hx hy
  have hlt:=aI hg
  rw[←hc.1]at hlt
  have hu:cells[i*s+j]?=some cells[i*s+j]:=List.getElem?_eq_getElem hlt
  rw[List.getD_eq_getElem?_getD,hu]
  exact hc.2 _ _ _ hu hg
theorem VR.flatten {A:Option Addr} {len cap s:Nat} {o:Own} {els:List AV} (r:VR G w (.slice A len cap) (.sl o els)) (hs:∀ x∈els,x.cells.length=s) :
  els.length=len∧len≤cap∧OwnR G o (.slice A len cap) len cap∧∃ cells:List Value,cells.length=len*s∧VRs G w cells (els.flatMap AV.cells)∧(len=0∨∃ b off,A=some ⟨b,off,none⟩∧∀ k v,cells[k]?=some v→Stb G w b (off+k) v):=by
 cases r with
 | sl0 A cap o hn ho=>exact⟨rfl,Nat.zero_le _,ho,[],by simp,VRs.nil G w,.inl rfl⟩
 | sl b off len cap s' o els f hl hcap hs' h1 h2 ho=>
  refine⟨hl,hcap,ho,?_⟩
  cases els with
  | nil=>
   simp at hl
   subst hl
   exact⟨[],by simp,VRs.nil G w,.inr ⟨b,off,rfl,fun k v hk=>by simp at hk⟩⟩
  | cons x0 els'=>
   have hse:s'=s:=by rw[←hs' x0 (by simp),hs x0 (by simp)]
   subst hse
   generalize x0::els'=els at *
   rcases Nat.eq_zero_or_pos s' with rfl|hpos
   ·refine⟨[],by simp,⟨?_,fun i v x hv=>by simp at hv⟩,.inr ⟨b,off,rfl,fun k v hk=>by simp at hk⟩⟩
    rw[flat_length _ 0 els hs'];simp
   ·have hdm:∀ k,k<len*s'→k / s'<len∧k % s'<s':=fun k hk=>⟨(Nat.div_lt_iff_lt_mul hpos).2 hk,Nat.mod_lt _ hpos⟩
    refine⟨(List.range (len*s')).map fun k=>f (k / s') (k % s'),by simp,⟨by rw[flat_length _ s' els hs',hl];simp,fun k v y hv hy => ?_⟩,.inr ⟨b,off,rfl,fun k v hk => ?_⟩⟩
    ·have hk:=aI hy
     rw[flat_length _ s' els hs',hl]at hk
     obtain⟨q1,q2⟩:=hdm k hk
     rw[List.getElem?_map,List.getElem?_range hk]at hv
     simp only[Option.map_some,Option.some.injEq]at hv
     subst hv
     obtain⟨x,hx⟩:∃ x,els[k / s']?=some x:=⟨_,List.getElem?_eq_getElem (by rw[hl];exact q1)⟩
     have hxs:=hs' x (List.mem_of_getElem? hx)
     obtain⟨y',hy'⟩:∃ y',x.cells[k % s']?=some y':=⟨_,List.getElem?_eq_getElem (by rw[hxs];exact q2)⟩
     have hg:=flat_get AV.cells s' els hs' _ _ x y' hx hy'
     rw[Nat.div_add_mod']at hg
     rw[hg]at hy
     simp only[Option.some.injEq]at hy
     subst hy
     exact h2 _ _ x y' hx hy'
    ·have hkl:=aI hk
     simp at hkl
     obtain⟨q1,q2⟩:=hdm k hkl
     rw[List.getElem?_map,List.getElem?_range hkl]at hk
     simp only[Option.map_some,Option.some.injEq]at hk
     subst hk
     have:=h1 (k / s') (k % s') q1 q2
     rw[Nat.add_assoc,Nat.div_add_mod']at this
     exact this
def Gh.chain (G:Gh) (id n:Nat) (V:Value) (b k:Nat):Gh:=
 { G with cv:=fun i=>if i=id then some (n,V)else G.cv i,fr:=fun c=>if c=b then some k else if G.ow c=some id then none else G.fr c,ow:=fun c=>if c=b then some id else G.ow c }
theorem chain_step (I:Inv G w h) {id n n' k k':Nat} {V':Value} {b:Nat} {w':World} {h':H} {size et:Nat} (hn:k≤k')
  (hid:(G.cv id=none∧id=h.nx∧G.ρ id=none)∨∃ V,G.cv id=some (n,V))
  (hlt:n<n') (hbase:G.base≤b) (hb:b<w'.heap.size) (hsz:w.heap.size≤w'.heap.size) (hos:w'.os=w.os) (htape:w'.tape=w.tape) (hout:w'.output=w.output)
  (hnew:b=w.heap.size∨(G.ow b=some id∧b<w.heap.size∧G.fr b=some k∧∀ o v,o<k→w.cell? ⟨b,o,none⟩=some v→w'.cell? ⟨b,o,none⟩=some v))
  (hoth:∀ c,c<w.heap.size→c≠b→w'.heap[c]?=w.heap[c]?) (hspos:0<size)
  (hh:(∀ j,j≠id→h'.t.get j=h.t.get j)∧h.nx≤h'.nx∧id<h'.nx)
  (hV:∃ cap xs,V' = .slice (some ⟨b,0,none⟩) n' cap∧w'.ownsRow G.base et size V' n' xs∧∀ G',Ext G w h G' w' h'→ChR G' w' (h'.t.get id) n' et size k' xs) :
  Inv (G.chain id n' V' b k') w' h'∧Ext G w h (G.chain id n' V' b k') w' h':=by
 obtain⟨hg2,hg3,hg4⟩:=hh
 have howb:b=w.heap.size∨G.ow b=some id:=hnew.imp (fun x=>x) fun x=>x.1
 have E:Ext G w h (G.chain id n' V' b k') w' h':=by
  refine⟨hos,htape,hout,hsz,rfl,fun c hc hf => ?_,fun c kk o v hf ho hv => ?_,fun _ _ h=>h,fun j m v hj => ?_,hg3,fun j hj hr hc => ?_,fun c hc ho => ?_⟩
  ·have hne:c≠b:=by
    rintro rfl
    rcases hnew with e|⟨_,_,e,_⟩
    ·omega
    ·rw[e]at hf;cases hf
   refine⟨hoth c hc hne,?_⟩
   simp only[Gh.chain]
   rw[if_neg hne]
   split
   ·rfl
   ·exact hf
  ·have hcl:=World.block_lt_of_cell? w ⟨c,o,none⟩ hv
   by_cases hne:c=b
   ·subst hne
    rcases hnew with e|⟨_,_,e,hsame⟩
    ·simp at hcl;omega
    ·rw[e]at hf
     simp only[Option.some.injEq]at hf
     subst hf
     exact⟨hsame o v ho hv,.inr ⟨k',by simp[Gh.chain],Nat.lt_of_lt_of_le ho hn⟩⟩
   ·refine⟨(World.cell?_of_block (w:=w) (a:=⟨c,o,none⟩) (hoth c hcl hne)).trans hv,?_⟩
    simp only[Gh.chain]
    rw[if_neg hne]
    split
    ·exact .inl rfl
    ·exact .inr ⟨kk,hf,ho⟩
  ·simp only[Gh.chain]
   by_cases e:j=id
   ·subst e
    rcases hid with ⟨e,_⟩|⟨V,e⟩
    ·rw[e]at hj;cases hj
    ·rw[e]at hj
     simp only[Option.some.injEq,Prod.mk.injEq]at hj
     obtain⟨rfl,rfl⟩:=hj
     exact⟨n',V',by simp,Nat.le_of_lt hlt,fun e=>by omega⟩
   ·rw[if_neg e]
    exact⟨m,v,hj,Nat.le_refl _,fun _=>rfl⟩
  ·have hne:j≠id:=by
    rintro rfl
    rcases hid with ⟨_,e,_⟩|⟨V,e⟩
    ·omega
    ·rw[e]at hc;cases hc
   exact⟨hg2 j hne,hr,by simp only[Gh.chain];rw[if_neg hne];exact hc⟩
  ·have hne:c≠b:=by
    rintro rfl
    rcases howb with e|e
    ·omega
    ·rw[e]at ho;cases ho
   exact⟨hoth c hc hne,by simp only[Gh.chain];rw[if_neg hne,if_neg (by rw[ho];simp)],by simp only[Gh.chain];rw[if_neg hne];exact ho⟩
 refine⟨⟨fun j o hj => ?_,fun c k hc => ?_,Nat.le_trans I.bas hsz,fun j c hj => ?_,fun j m v hj => ?_,I.ka.mono E⟩,E⟩
 ·by_cases e:j=id
  ·subst e;exact hg4
  ·rw[hg2 j e]at hj
   exact Nat.lt_of_lt_of_le (I.wf j o hj) hg3
 ·simp only[Gh.chain]at hc ⊢
  split at hc
  ·rename_i e;subst e;exact⟨hbase,hb⟩
  ·split at hc
   ·cases hc
   ·have:=I.frb c k hc
    exact⟨this.1,Nat.lt_of_lt_of_le this.2 hsz⟩
 ·have hj':G.ρ j=some c:=hj
  obtain⟨h1,h2,h3,h4⟩:=I.obj j c hj'
  have hjid:j≠id:=by
   rintro rfl
   rcases hid with ⟨_,_,e⟩|⟨V,e⟩
   ·rw[e]at hj';cases hj'
   ·obtain⟨_,_,_,_,_,_,_,e2,_⟩:=I.chn j n V e
    exact e2.no_obj h4
  have hcb:c≠b:=by
   rintro rfl
   rcases howb with e|e
   ·have:=(I.frb c 0 h2).2;omega
   ·rw[h3]at e
    simp only[Option.some.injEq]at e
    exact hjid e
  refine⟨Nat.lt_of_lt_of_le h1 hg3,?_,?_,?_⟩
  ·simp only[Gh.chain]
   rw[if_neg hcb,h3,if_neg (by simp[hjid])]
   exact h2
  ·simp only[Gh.chain];rw[if_neg hcb];exact h3
  ·rw[hg2 j hjid,hoth c (I.frb c 0 h2).2 hcb]
   exact h4.mono E
 ·simp only[Gh.chain]at hj
  by_cases e:j=id
  ·subst e
   simp only[if_true,Option.some.injEq,Prod.mk.injEq]at hj
   obtain⟨rfl,rfl⟩:=hj
   obtain⟨cap,xs,e1,e2,e3⟩:=hV
   exact⟨hg4,b,et,size,xs,cap,k',e3 _ E,e1,e2,by simp[Gh.chain],by simp[Gh.chain],hspos⟩
  ·rw[if_neg e]at hj
   obtain⟨h1,g,e',sz,xs,cap,kq,h2,h3,h4,h5,h6,h7⟩:=I.chn j m v hj
   have hgb:g≠b:=by
    rintro rfl
    rcases howb with e2|e2
    ·have:=(I.frb g _ h5).2;omega
    ·rw[h6]at e2
     simp only[Option.some.injEq]at e2
     exact e e2
   refine⟨Nat.lt_of_lt_of_le h1 hg3,g,e',sz,xs,cap,kq,by rw[hg2 j e];exact h2.mono E,h3,?_,?_,?_,h7⟩
   ·refine h4.kept (row:=some b) ⟨hos,htape,hout,hsz,fun k hk hkb=>hoth k hk (fun e3=>hkb (by rw[e3]))⟩ (.inr ?_)
    subst h3
    simp[Value.ownBlock,hgb]
   ·simp only[Gh.chain]
    rw[if_neg hgb,h6,if_neg (by simp[e])]
    exact h5
   ·simp only[Gh.chain];rw[if_neg hgb];exact h6
theorem append_types {t u e:Nat} {e':Nat} (ht:P.underlying t=some (.slice e)) (hu:P.underlying u=some (.slice e')) (ty:Nat) (A:Option Addr) (n c:Nat) (Y:Value) :
  (Builtin.append_ #[t,u] ty #[.slice A n c,Y]).run P w=(Builtin.append_ #[t,t] ty #[.slice A n c,Y]).run P w:=by
 simp[Builtin.append_,bL ht,bL hu]
theorem append_room_src (t u ty e:TypeId) (i:TypeInfo) (ht:P.underlying t=some (.slice e)) (hi:P.info? e=some i) (w:World)
  (g sLen sCap:Nat) (cur:Array Value) (hg:w.heap[g]?=some (.cells cur e (0,0))) (x:Value) (m:Nat) (news:List Value) (hs:Src P i.size u x m news w)
  (hroom:sLen+m≤sCap) (hfit:sLen*i.size+news.length≤cur.size) :
  (Builtin.append_ #[t,u] ty #[.slice (some ⟨g,0,none⟩) sLen sCap,x]).run P w =
   .ok (.slice (some ⟨g,0,none⟩) (sLen+m) sCap) (w.setRow g (cur.toList.take (sLen*i.size)++news++cur.toList.drop (sLen*i.size+news.length)).toArray):=by
 have hst:=run_storeCells_at P g (sLen*i.size) e news 0 cur w hg (by simpa using hfit) hs.one
 simp only[Nat.add_zero]at hst
 rcases hs.kind with ⟨e',hk⟩|hk<;>simp[Builtin.append_,run_underlying ht,run_underlying hk,sizeOf,typeInfo,hi,hs.len,hroom,hs.cells,Addr.add_lit,hst]
theorem append_none_src (w:World) (t u ty e:TypeId) (i:TypeInfo) (ht:P.underlying t=some (.slice e)) (hi:P.info? e=some i) (A:Option Addr) (n c:Nat) (hle:n≤c) (x:Value) (hs:Src P i.size u x 0 [] w) :
  (Builtin.append_ #[t,u] ty #[.slice A n c,x]).run P w = .ok (.slice A n c) w:=by
 rcases hs.kind with ⟨e',hk⟩|hk<;>cases A<;>simp[Builtin.append_,run_underlying ht,run_underlying hk,sizeOf,typeInfo,hi,hs.len,hle,hs.cells,storeCells]
theorem append_core {ty:Nat→Option TyI} (hT:TyOk P ty) (I:Inv G w h) {t u e:Nat} (u1:P.underlying t=some (.slice e))
  {ef2:Option (List (Nat × Nat))} {k:TK} {sz byt:Nat} {z:AV} {ag:Bool} (he:ty e=some ⟨k,sz,byt,some z,ag,ef2⟩) (hzl:z.cells.length=sz) {X Y:Value} {x:AV} {ys:List AV} (hX:VR G w X x)
  {m:Nat} {news:List Value} (hSrc:∀ inf,P.info? e=some inf→Src P inf.size u Y m news w) (y1:ys.length=m) (y4h:(∀ x∈ys,x.cells.length=sz)→news.length=m*sz) (y5:VRs G w news (ys.flatMap AV.cells)) {v:AV} {h':H}
  (hv:bG e sz byt h x ys=some (v,h')) (rt:Nat) :
  ∃ V G' w',(Builtin.append_ #[t,u] rt #[X,Y]).run P w = .ok V w'∧Inv G' w' h'∧Ext G w h G' w' h'∧VR G' w' V v:=by
 obtain⟨inf,d3,g1,g2,_,g3,g4,_⟩:=bM (hT _ _ he)
 simp only at g3 g4
 obtain⟨inf',Z,g5,g6,g7⟩:=zero_VR (G:=G) (w:=w) hT he rfl
 rw[g1]at g5
 simp only[Option.some.injEq]at g5
 subst g5
 have hZs:Z.cells.size=sz:=by have:=g7.cells.1;simp at this;omega
 have hS:=hSrc inf g1
 clear hSrc
 unfold bG at hv
 split at hv
 ·rename_i o els
  cases hc:(Nat.blt 0 sz&&(Nat.blt 0 byt&&(aM sz ys&&(bY ys&&(aM sz els&&Nat.ble ((els.length+ys.length)*byt) 140737488355328)))))with
  | false=>rw[hc]at hv;simp at hv
  | true=>
   rw[hc]at hv
   simp only[cond_true]at hv
   simp only[Bool.and_eq_true]at hc
   obtain⟨c1,c2,c3,c4,c5,c6⟩:=hc
   have hsz:=cR.1 c1
   have hby:=cR.1 c2
   have hys:=fL c3
   have hels:=fL c5
   have hle:=Nat.le_of_ble_eq_true c6
   obtain⟨A,n,cap,rfl⟩:∃ A n cap,X = .slice A n cap:=by cases hX<;>exact⟨_,_,_,rfl⟩
   obtain⟨x1,x2,x3,xs,x4,x5,x6⟩:=hX.flatten hels
   have y4:=y4h hys
   clear y4h
   have hnm:(n+m)*byt≤140737488355328:=by rw[←x1,←y1];exact hle
   have hnm2:n+m≤140737488355328:=Nat.le_trans (Nat.le_mul_of_pos_right _ hby) hnm
   cases ys with
   | nil=>
    simp only[Option.some.injEq,Prod.mk.injEq]at hv
    obtain⟨rfl,rfl⟩:=hv
    simp at y1
    subst y1
    have hn0:news=[]:=List.eq_nil_of_length_eq_zero (by rw[y4];simp)
    subst hn0
    exact⟨.slice A n cap,G,w,append_none_src w t u rt e inf u1 g1 A n cap x2 Y hS,I,Ext.refl G w h,hX⟩
   | cons y0 ys'=>
    generalize hyse:y0::ys'=ys at *
    have hmpos:0<m:=by rw[←y1,←hyse];simp
    have hboth:∀ x∈els++ys,x.cells.length=sz:=fun x hx=>(List.mem_append.1 hx).elim (hels x) (hys x)
    have hlen:(els++ys).length=n+m:=by simp[x1,y1]
    have hcellsl:(xs++news).length=(n+m)*sz:=by rw[List.length_append,x4,y4,Nat.add_mul]
    have hflat:VRs G w (xs++news) ((els++ys).flatMap AV.cells):=by rw[List.flatMap_append];exact x5.append y5
    have grow:cap<n+m→∃ cap',n+m≤cap'∧cap'≤maxLen∧(Builtin.append_ #[t,u] rt #[.slice A n cap,Y]).run P w =
      .ok (.slice (some ⟨w.heap.size,0,none⟩) (n+m) cap') (w.drew.alloc (.cells ((xs++news).toArray++Builtin.zeroCells Z.cells (cap'-(n+m))) e)):=by
     intro hg
     refine⟨grownCap w (n+m) cap e,grownCap_ge w (n+m) cap e,grownCap_le_maxLen w (n+m) cap e (by simp only[maxLen];omega),?_⟩
     refine run_append_grow_src w t u rt e inf Z u1 g1 g6 A n cap xs ?_ Y m news hS hg (by omega) (growslice_fits hg (by rw[←g4];exact hnm))
     rcases x6 with rfl|⟨bo,oo,rfl,hxs⟩
     ·have hx0:xs=[]:=List.eq_nil_of_length_eq_zero (by rw[x4];simp)
      subst hx0
      cases A with
      | none=>simp[Builtin.firstCells]
      | some aq=>simp[Builtin.firstCells,loadCells,loadCellsFrom]
     ·exact run_firstCells_some w.drew inf.size n ⟨bo,oo,none⟩ n cap xs (by rw[x4,g3]) (fun j v hj=>by rw[addr_add];simpa using (hxs j v hj).1)
    have rowNew:∀ cap',n+m≤cap'→cap'≤maxLen→(w.drew.alloc (.cells ((xs++news).toArray++Builtin.zeroCells Z.cells (cap'-(n+m))) e)).ownsRow G.base e sz (.slice (some ⟨w.heap.size,0,none⟩) (n+m) cap') (n+m) (xs++news):=by
     intro cap' hge hcm
     refine⟨hcellsl,.inr ⟨w.heap.size,cap',_,rfl,I.bas,heap_alloc_new w.drew _,hge,hcm,?_,?_⟩⟩
     ·simp only[Array.size_append,List.size_toArray,size_zeroCells,hZs,hcellsl,←Nat.add_mul]
      congr 1
      omega
     ·rw[Array.toList_append,←hcellsl]
      exact List.take_left
    have valNew:∀ {id b cap':Nat} {w':World} {h2:H},Ext G w h (G.chain id (n+m) (.slice (some ⟨b,0,none⟩) (n+m) cap') b ((n+m)*sz)) w' h2→n+m≤cap'→(∀ q V,(xs++news)[q]?=some V→w'.cell? ⟨b,q,none⟩=some V) →
      VR (G.chain id (n+m) (.slice (some ⟨b,0,none⟩) (n+m) cap') b ((n+m)*sz)) w' (.slice (some ⟨b,0,none⟩) (n+m) cap') (.sl (.ch id) (els++ys)):=by
     intro id b cap' w' h2 E hge hcell
     have:=VR.sl_at (G:=G.chain id (n+m) (.slice (some ⟨b,0,none⟩) (n+m) cap') b ((n+m)*sz)) (w:=w') (b:=b) (off:=0) (cap:=cap') (o := .ch id) (els:=els++ys) (cells:=xs++news) hboth (fun q V hq=>⟨by rw[Nat.zero_add];exact hcell q V hq,.inr ⟨(n+m)*sz,by simp[Gh.chain],by have:=aI hq;rw[hcellsl]at this;omega⟩⟩) (hflat.mono E) (by rw[hlen];exact hge) ⟨n+m,.slice (some ⟨b,0,none⟩) (n+m) cap',by simp[Gh.chain],by rw[hlen];exact Nat.le_refl _,fun _=>by rw[hlen]⟩
     rw[hlen]at this
     exact this
    cases o with
    | no=>rw[←hyse]at hv;simp at hv
    | full=>
     have hv2:some (AV.sl (.ch h.nx) (els++ys),h.new (.chain (els.length+ys.length) e sz))=some (v,h'):=by rw[←hyse]at hv ⊢;exact hv
     simp only[Option.some.injEq,Prod.mk.injEq]at hv2
     obtain⟨rfl,rfl⟩:=hv2
     have hcapn:cap=n:=x3
     obtain⟨cap',q1,q2,q3⟩:=grow (by omega)
     obtain⟨f1,f2,f3⟩:=I.fresh
     have hst:=chain_step (h':=h.new (.chain (els.length+ys.length) e sz)) I (id:=h.nx) (n:=n) (n':=n+m) (V' := .slice (some ⟨w.heap.size,0,none⟩) (n+m) cap') (b:=w.heap.size) (w':=w.drew.alloc (.cells ((xs++news).toArray++Builtin.zeroCells Z.cells (cap'-(n+m))) e)) (size:=sz) (k:=n*sz) (k':=(n+m)*sz) (Nat.mul_le_mul_right _ (Nat.le_add_right _ _))
      (.inl ⟨f2,rfl,f1⟩) (by omega) I.bas (by simp) (by simp) rfl rfl rfl (.inl rfl) (fun c hc _=>heap_alloc_old w.drew _ c hc) hsz
      ⟨fun j hj=>T.aD _ _ hj,Nat.le_succ _,Nat.lt_succ_self _⟩ ⟨cap',_,rfl,rowNew cap' q1 q2,fun _ _ => .inl ⟨by rw[x1,y1];exact T.bO _ _ _,rfl⟩⟩
     refine⟨_,_,_,q3,hst.1,hst.2,valNew hst.2 q1 fun q V hq => ?_⟩
     have hc0:(w.drew.alloc (.cells ((xs++news).toArray++Builtin.zeroCells Z.cells (cap'-(n+m))) e)).heap[w.heap.size]?=some (.cells ((xs++news).toArray++Builtin.zeroCells Z.cells (cap'-(n+m))) e (0,0)):=heap_alloc_new w.drew _
     rw[cell_at hc0]
     have:=aI hq
     rw[Array.getElem?_append_left (by simpa using this)]
     simpa using hq
    | ch id=>
     cases hgt:h.t.get id with
     | none=>rw[←hyse]at hv;simp[hgt]at hv
     | some ob=>
      cases ob with
      | cells _=>rw[←hyse]at hv;simp[hgt]at hv
      | map _=>rw[←hyse]at hv;simp[hgt]at hv
      | row _ _ _ _=>rw[←hyse]at hv;simp[hgt]at hv
      | chain q eq sq=>
       have hv2:(bif Nat.beq q els.length&&(Nat.beq eq e&&Nat.beq sq sz)then some (AV.sl (.ch id) (els++ys),h.put id (.chain (els.length+ys.length) e sz))else none)=some (v,h'):=by
        rw[←hyse]at hv ⊢
        simpa[hgt]using hv
       cases hqe:(Nat.beq q els.length&&(Nat.beq eq e&&Nat.beq sq sz))with
       | false=>rw[hqe]at hv2;simp at hv2
       | true=>
        rw[hqe]at hv2
        simp only[cond_true,Option.some.injEq,Prod.mk.injEq]at hv2
        obtain⟨rfl,rfl⟩:=hv2
        simp only[Bool.and_eq_true]at hqe
        have hq1:=bV.1 hqe.1
        have hq2:=bV.1 hqe.2.1
        have hq3:=bV.1 hqe.2.2
        subst hq1;subst hq2;subst hq3
        obtain⟨nq,Vq,k1,k2,k3⟩:=x3
        obtain⟨j1,gq,eq2,szq,xsq,capq,kq,j2,j3,j4,j5,j6,j7⟩:=I.chn id nq Vq k1
        rw[hgt]at j2
        obtain⟨⟨j2a,j2b,j2c⟩,rfl⟩:(els.length=nq∧eq=eq2∧sq=szq)∧kq=nq*szq:=by
         rcases j2 with ⟨j2,j3⟩|⟨cs,j2,_⟩
         ·simp only[Option.some.injEq,Obj.chain.injEq]at j2
          exact⟨j2,j3⟩
         ·simp at j2
        subst j2b;subst j2c
        have hnq:nq=n:=by omega
        subst hnq
        have hVq:=k3 rfl
        rw[hVq]at j3 j4
        simp only[Value.slice.injEq]at j3
        obtain⟨j3a,_,j3c⟩:=j3
        subst j3a;subst j3c
        obtain⟨jl,jr⟩:=j4
        rcases jr with ⟨jn,_⟩|⟨g0,cap0,cur,jv,jb,jh,jc1,jc2,jc3,jt⟩
        ·simp at jn
        ·simp only[Value.slice.injEq,Option.some.injEq,Addr.mk.injEq,and_true]at jv
         obtain⟨jv1,_,jv2⟩:=jv
         subst jv1;subst jv2
         obtain⟨xb,xo,hxe,hxs⟩:∃ b off,(some ⟨gq,0,none⟩:Option Addr)=some ⟨b,off,none⟩∧∀ (k:Nat) (v:Value),xs[k]?=some v→Stb G w b (off+k) v:=by
          rcases x6 with e0|h0
          ·exact⟨gq,0,rfl,fun k v hk=>by have:=aI hk;rw[x4,e0]at this;omega⟩
          ·exact h0
         simp only[Option.some.injEq,Addr.mk.injEq,and_true]at hxe
         obtain⟨hxe1,hxe2⟩:=hxe
         subst hxe1;subst hxe2
         have hxcur:cur.toList.take (nq*sq)=xs:=by
          apply List.ext_getElem?
          intro i
          rcases Nat.lt_or_ge i (nq*sq)with hi|hi
          ·have hil:i<xs.length:=by rw[x4];exact hi
           have h1:=(hxs i xs[i] (List.getElem?_eq_getElem hil)).1
           rw[cell_at jh,Nat.zero_add]at h1
           rw[List.getElem?_take_of_lt hi,List.getElem?_eq_getElem hil]
           simpa using h1
          ·rw[List.getElem?_eq_none (by simp;omega),List.getElem?_eq_none (by rw[x4];exact hi)]
         by_cases hroom:nq+m≤cap
         ·have hfit:nq*inf.size+news.length≤cur.size:=by rw[y4,jc3,←g3,←Nat.add_mul];exact Nat.mul_le_mul_right _ hroom
          have hrun:=append_room_src (P:=P) t u rt eq inf u1 g1 w gq nq cap cur jh Y m news hS hroom hfit
          rw[←g3]at hrun hfit
          rw[hxcur]at hrun
          have hcells:∀ q V,(xs++news)[q]?=some V→(w.setRow gq (xs++news++cur.toList.drop (nq*sq+news.length)).toArray).cell? ⟨gq,q,none⟩=some V:=by
           intro q V hq
           rw[cell_at (setRow_heap w gq cur _ eq _ jh)]
           have:=aI hq
           simp only[List.getElem?_toArray]
           rw[List.getElem?_append_left this]
           exact hq
          have hst:=chain_step (h':=h.put id (.chain (els.length+ys.length) eq sq)) (et:=eq) I (id:=id) (n:=nq) (n':=nq+m) (V' := .slice (some ⟨gq,0,none⟩) (nq+m) cap) (b:=gq) (w':=w.setRow gq (xs++news++cur.toList.drop (nq*sq+news.length)).toArray) (size:=sq) (k:=nq*sq) (k':=(nq+m)*sq) (Nat.mul_le_mul_right _ (Nat.le_add_right _ _))
           (.inr ⟨_,k1⟩) (by omega) jb (by simp[World.setRow];exact(Array.getElem?_eq_some_iff.1 jh).1) (by simp[World.setRow]) rfl rfl rfl
           (.inr ⟨j6,(Array.getElem?_eq_some_iff.1 jh).1,j5,fun o v ho hv => ?_⟩) (fun c hc hne=>setRow_other w gq c _ hne) hsz
           ⟨fun j hj=>T.aD _ _ hj,Nat.le_refl _,j1⟩ ⟨cap,xs++news,rfl,⟨hcellsl,.inr ⟨gq,cap,_,rfl,jb,setRow_heap w gq cur _ eq _ jh,hroom,jc2,?_,?_⟩⟩,fun _ _ => .inl ⟨by rw[x1,y1];exact T.bO _ _ _,rfl⟩⟩
          ·exact⟨_,_,_,hrun,hst.1,hst.2,valNew hst.2 hroom hcells⟩
          ·refine hcells o v ?_
           rw[cell_at jh]at hv
           rw[List.getElem?_append_left (by rw[x4];exact ho),←hxcur,List.getElem?_take_of_lt ho]
           simpa using hv
          ·simp only[List.size_toArray,List.length_append,List.length_drop,Array.length_toList,x4,y4]
           rw[jc3]
           have:=Nat.mul_le_mul_right sq hroom
           rw[Nat.add_mul]at this
           omega
          ·simp only[List.append_assoc]
           rw[←List.append_assoc,←hcellsl]
           exact List.take_left
         ·obtain⟨cap',q1,q2,q3⟩:=grow (by omega)
          have hst:=chain_step (h':=h.put id (.chain (els.length+ys.length) eq sq)) (et:=eq) I (id:=id) (n:=nq) (n':=nq+m) (V' := .slice (some ⟨w.heap.size,0,none⟩) (nq+m) cap') (b:=w.heap.size) (w':=w.drew.alloc (.cells ((xs++news).toArray++Builtin.zeroCells Z.cells (cap'-(nq+m))) eq)) (size:=sq) (k:=nq*sq) (k':=(nq+m)*sq) (Nat.mul_le_mul_right _ (Nat.le_add_right _ _))
           (.inr ⟨_,k1⟩) (by omega) I.bas (by simp) (by simp) rfl rfl rfl (.inl rfl) (fun c hc _=>heap_alloc_old w.drew _ c hc) hsz
           ⟨fun j hj=>T.aD _ _ hj,Nat.le_refl _,j1⟩ ⟨cap',_,rfl,rowNew cap' q1 q2,fun _ _ => .inl ⟨by rw[x1,y1];exact T.bO _ _ _,rfl⟩⟩
          refine⟨_,_,_,q3,hst.1,hst.2,valNew hst.2 q1 fun q V hq => ?_⟩
          have hc0:(w.drew.alloc (.cells ((xs++news).toArray++Builtin.zeroCells Z.cells (cap'-(nq+m))) eq)).heap[w.heap.size]?=some (.cells ((xs++news).toArray++Builtin.zeroCells Z.cells (cap'-(nq+m))) eq (0,0)):=heap_alloc_new w.drew _
          rw[cell_at hc0]
          have:=aI hq
          rw[Array.getElem?_append_left (by simpa using this)]
          simpa using hq
 ·simp at hv
theorem append_sim {ty:Nat→Option TyI} (hT:TyOk P ty) (I:Inv G w h) {t u e e':Nat} {s1 b1 s2 b2:Nat} {z1 z2:Option AV} {a1 a2:Bool} {ef1 ef2 ef3:Option (List (Nat × Nat))} (ht:ty t=some ⟨.sl e,s1,b1,z1,a1,ef1⟩) (hu:ty u=some ⟨.sl e',s2,b2,z2,a2,ef3⟩)
  {k:TK} {sz byt:Nat} {z:AV} {ag:Bool} (he:ty e=some ⟨k,sz,byt,some z,ag,ef2⟩) (hzl:z.cells.length=sz) {X Y:Value} {x:AV} {oy:Own} {ys:List AV} (hX:VR G w X x) (hY:VR G w Y (.sl oy ys)) {v:AV} {h':H}
  (hv:bG e sz byt h x ys=some (v,h')) (rt:Nat) :
  ∃ V G' w',(Builtin.append_ #[t,u] rt #[X,Y]).run P w = .ok V w'∧Inv G' w' h'∧Ext G w h G' w' h'∧VR G' w' V v:=by
 obtain⟨_,d1,_,u1,kk1,_⟩:=bM (hT _ _ ht)
 have:=dP kk1
 subst this
 obtain⟨_,d2,_,u2,kk2,_⟩:=bM (hT _ _ hu)
 have:=dP kk2
 subst this
 have hys:(∀ x∈ys,x.cells.length=sz)∧bY ys=true:=by
  have hv2:=hv
  unfold bG at hv2
  split at hv2
  ·rename_i o els
   cases hc:(Nat.blt 0 sz&&(Nat.blt 0 byt&&(aM sz ys&&(bY ys&&(aM sz els&&Nat.ble ((els.length+ys.length)*byt) 140737488355328)))))with
   | false=>rw[hc]at hv2;simp at hv2
   | true=>
    simp only[Bool.and_eq_true]at hc
    exact⟨fL hc.2.2.1,hc.2.2.2.1⟩
  ·simp at hv2
 obtain⟨B,m,mc,rfl⟩:∃ A n cap,Y = .slice A n cap:=by cases hY<;>exact⟨_,_,_,rfl⟩
 obtain⟨y1,y2,y3,news,y4,y5,y6⟩:=hY.flatten hys.1
 have hone:∀ q∈news,q.oneCell'=true:=by
  intro q hq
  obtain⟨i,hi⟩:=List.getElem?_of_mem hq
  have hil:=aI hi
  rw[y5.1]at hil
  have hx:=y5.2 i q _ hi (List.getElem?_eq_getElem hil)
  refine hx.one ?_
  have key:∀ (l:List AV),bY l=true→∀ y∈l.flatMap AV.cells,y.one=true:=by
   intro l
   induction l with
   | nil=>intro _ y hy;simp at hy
   | cons a l ih=>
    intro hl y hy
    simp only[bY,Bool.and_eq_true]at hl
    rw[List.flatMap_cons]at hy
    rcases List.mem_append.1 hy with hy|hy
    ·have:∀ (l:List AV),bB l=true→∀ x∈l,x.one=true:=by
      intro l
      induction l with
      | nil=>intro _ x hx;simp at hx
      | cons b l ih2=>
       intro hl2 x hx
       simp only[bB,Bool.and_eq_true]at hl2
       rcases List.mem_cons.1 hx with rfl|hx
       ·exact hl2.1
       ·exact ih2 hl2.2 x hx
     exact this _ hl.1 y hy
    ·exact ih hl.2 y hy
  exact key ys hys.2 _ (List.getElem_mem hil)
 refine append_core hT I (u:=u) u1 he hzl hX (fun inf hinf => ?_) y1 (fun _=>y4) y5 hv rt
 have hs:inf.size=sz:=by
  obtain⟨inf2,_,g1,_,_,g3,_⟩:=bM (hT _ _ he)
  rw[hinf]at g1
  injection g1 with g1
  subst g1
  exact g3.symm
 rw[hs]
 rcases y6 with e0|⟨b,off,rfl,hs⟩
 ·subst e0
  have hn0:news=[]:=List.eq_nil_of_length_eq_zero (by rw[y4];simp)
  subst hn0
  cases B with
  | none=>exact Src.ofNil w u2 mc
  | some a=>exact Src.ofSlice w u2 a 0 mc [] (by simp) (fun j u hj=>by simp at hj) (fun u hu=>by simp at hu)
 ·exact Src.ofSlice w u2 ⟨b,off,none⟩ m mc news y4 (fun j v hj=>by rw[addr_add];exact(hs j v hj).1) hone
theorem bytes_VRs (s:ByteArray):VRs G w (byteCells s) (((bytesOf s).map fun n=>AV.int .u8 (Int.ofNat n)).flatMap AV.cells):=by
 have e:(((bytesOf s).map fun n=>AV.int .u8 (Int.ofNat n)).flatMap AV.cells)=s.data.toList.map fun b=>AV.int .u8 (Int.ofNat b.toNat):=by
  unfold bytesOf
  rw[List.map_map,List.flatMap_map]
  generalize s.data.toList=l
  induction l with
  | nil=>rfl
  | cons a l ih=>rw[List.flatMap_cons,List.map_cons,←ih];rfl
 rw[e]
 refine⟨by simp[byteCells],fun i v x h1 h2 => ?_⟩
 simp only[byteCells,List.getElem?_map]at h1 h2
 cases hb:s.data.toList[i]? with
 | none=>rw[hb]at h1;simp at h1
 | some b=>
  rw[hb]at h1 h2
  simp only[Option.map_some,Option.some.injEq]at h1 h2
  subst h1;subst h2
  exact .int .u8 _
theorem append_str_sim {ty:Nat→Option TyI} (hT:TyOk P ty) (I:Inv G w h) {t u e:Nat} {s1 b1 s2 b2:Nat} {z1 z2:Option AV} {a1 a2:Bool} {ef1 ef2 ef3:Option (List (Nat × Nat))} (ht:ty t=some ⟨.sl e,s1,b1,z1,a1,ef1⟩) (hu:ty u=some ⟨.str,s2,b2,z2,a2,ef3⟩)
  {k:TK} {sz byt:Nat} {z:AV} {ag:Bool} (he:ty e=some ⟨k,sz,byt,some z,ag,ef2⟩) (hzl:z.cells.length=sz) (hsz:sz=1) {X Y:Value} {x:AV} {ys:List Nat} (hX:VR G w X x) (hY:VR G w Y (.str ys)) {v:AV} {h':H}
  (hv:bG e sz byt h x (ys.map fun n => .int .u8 (Int.ofNat n))=some (v,h')) (rt:Nat) :
  ∃ V G' w',(Builtin.append_ #[t,u] rt #[X,Y]).run P w = .ok V w'∧Inv G' w' h'∧Ext G w h G' w' h'∧VR G' w' V v:=by
 obtain⟨_,d1,_,u1,kk1,_⟩:=bM (hT _ _ ht)
 have:=dP kk1
 subst this
 obtain⟨_,d2,_,u2,kk2,_⟩:=bM (hT _ _ hu)
 have:=kind_str kk2
 subst this
 cases hY with
 | str s=>
  refine append_core hT I (u:=u) u1 he hzl hX (m:=s.size) (news:=byteCells s) (fun inf hinf => ?_) (by rw[List.length_map,fP]) (fun _=>by rw[byteCells_length,hsz,Nat.mul_one]) (bytes_VRs s) hv rt
  have hs:inf.size=1:=by
   obtain⟨inf2,_,g1,_,_,g3,_⟩:=bM (hT _ _ he)
   rw[hinf]at g1
   injection g1 with g1
   subst g1
   rw[←hsz];exact g3.symm
  rw[hs]
  exact Src.ofString w u2 s
end
end Go.Ev
