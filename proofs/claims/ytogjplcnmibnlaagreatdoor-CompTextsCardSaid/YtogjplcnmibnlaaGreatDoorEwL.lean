/- Values that name nothing of the heap: their owners forgotten. Rows of numbers, put in order. -/
import Derived.Test.YtogjplcnmibnlaaGreatDoorEwF
import Derived.Lib.AppendZeros
set_option autoImplicit false
set_option linter.unusedSectionVars false
set_option linter.unusedVariables false
set_option linter.unusedSimpArgs false
namespace Go.Ev
variable [Inhabited KA0] [MT]
mutual
def AV.bareF:AV→Option AV
 | .bool b=>some (.bool b)
 | .int k n=>some (.int k n)
 | .str s=>some (.str s)
 | .ptr none=>some (.ptr none)
 | .sl _ els=>match AV.baresF els with
  | some l=>some (.sl .no l)
  | none=>none
 | .map none=>some (.map none)
 | .nilFn=>some .nilFn
 | .nilIface=>some .nilIface
 | .agg cs=>match AV.baresF cs with
  | some l=>some (.agg l)
  | none=>none
 | .tup cs=>match AV.baresF cs with
  | some l=>some (.tup l)
  | none=>none
 | _=>none
def AV.baresF:List AV→Option (List AV)
 | []=>some []
 | a::l=>match AV.bareF a with
  | none=>none
  | some b=>match AV.baresF l with
   | none=>none
   | some m=>some (b::m)
end
mutual
theorem bareF_wk:∀ (v u:AV),v.bareF=some u→v.wk 0 u∧u.wk 0 u
 | .bool _,u,h=>by simp[AV.bareF]at h;subst h;simp[AV.wk]
 | .int _ _,u,h=>by simp[AV.bareF]at h;subst h;simp[AV.wk]
 | .str _,u,h=>by simp[AV.bareF]at h;subst h;simp[AV.wk]
 | .ptr none,u,h=>by simp[AV.bareF]at h;subst h;simp[AV.wk]
 | .ptr (some _),u,h=>by simp[AV.bareF]at h
 | .vp _,u,h=>by simp[AV.bareF]at h
 | .sl o els,u,h=>by
  simp only[AV.bareF]at h
  cases hb:AV.baresF els with
  | none=>rw[hb]at h;simp at h
  | some l=>
   rw[hb]at h
   simp only[Option.some.injEq]at h
   subst h
   have:=baresF_wk els l hb
   exact⟨wk_sl.2 ⟨own_no,this.1⟩,wk_sl.2 ⟨own_no,this.2⟩⟩
 | .map none,u,h=>by simp[AV.bareF]at h;subst h;simp[AV.wk]
 | .map (some _),u,h=>by simp[AV.bareF]at h
 | .fn _ _ _,u,h=>by simp[AV.bareF]at h
 | .nilFn,u,h=>by simp[AV.bareF]at h;subst h;simp[AV.wk]
 | .iface _ _,u,h=>by simp[AV.bareF]at h
 | .nilIface,u,h=>by simp[AV.bareF]at h;subst h;simp[AV.wk]
 | .agg els,u,h=>by
  simp only[AV.bareF]at h
  cases hb:AV.baresF els with
  | none=>rw[hb]at h;simp at h
  | some l=>
   rw[hb]at h
   simp only[Option.some.injEq]at h
   subst h
   have:=baresF_wk els l hb
   exact⟨wk_agg.2 this.1,wk_agg.2 this.2⟩
 | .tup els,u,h=>by
  simp only[AV.bareF]at h
  cases hb:AV.baresF els with
  | none=>rw[hb]at h;simp at h
  | some l=>
   rw[hb]at h
   simp only[Option.some.injEq]at h
   subst h
   have:=baresF_wk els l hb
   exact⟨wk_tup.2 this.1,wk_tup.2 this.2⟩
 | .rs _ _ _,u,h=>by simp[AV.bareF]at h
 | .rp _ _ _,u,h=>by simp[AV.bareF]at h
 | .rv _ _ _,u,h=>by simp[AV.bareF]at h
theorem baresF_wk:∀ (l m:List AV),AV.baresF l=some m→AV.wks 0 l m∧AV.wks 0 m m
 | [],m,h=>by simp[AV.baresF]at h;subst h;simp[AV.wks]
 | a::l,m,h=>by
  simp only[AV.baresF]at h
  cases ha:AV.bareF a with
  | none=>rw[ha]at h;simp at h
  | some b=>
   cases hl:AV.baresF l with
   | none=>rw[ha,hl]at h;simp at h
   | some k=>
    rw[ha,hl]at h
    simp only[Option.some.injEq]at h
    subst h
    have h1:=bareF_wk a b ha
    have h2:=baresF_wk l k hl
    exact⟨cK.2 ⟨h1.1,h2.1⟩,cK.2 ⟨h1.2,h2.2⟩⟩
end
def chunks (s:Nat):Nat→List AV→List AV
 | 0,_=>[]
 | n+1,cs => .agg (cs.take s)::chunks s n (cs.drop s)
theorem chunks_get (s:Nat):∀ (n:Nat) (cs:List AV) (i:Nat) (x:AV),(chunks s n cs)[i]?=some x→i<n∧x = .agg ((cs.drop (i*s)).take s)
 | 0,cs,i,x,h=>by simp[chunks]at h
 | n+1,cs,0,x,h=>by
  simp only[chunks,List.getElem?_cons_zero,Option.some.injEq]at h
  subst h
  exact⟨Nat.succ_pos n,by rw[Nat.zero_mul,List.drop_zero]⟩
 | n+1,cs,i+1,x,h=>by
  simp only[chunks,List.getElem?_cons_succ]at h
  obtain⟨h1,h2⟩:=chunks_get s n _ i x h
  exact⟨Nat.succ_lt_succ h1,by rw[h2,List.drop_drop,Nat.add_mul,Nat.one_mul,Nat.add_comm]⟩
theorem chunks_length (s:Nat):∀ (n:Nat) (cs:List AV),(chunks s n cs).length=n
 | 0,_=>rfl
 | n+1,cs=>by rw[chunks,List.length_cons,chunks_length s n]
def cE (f:AV→Option AV) (h:H) (v:AV):Option AV:=
 match v with
 | .bool b=>some (.bool b)
 | .int j n=>some (.int j n)
 | .str s=>some (.str s)
 | .ptr none=>some (.ptr none)
 | .map none=>some (.map none)
 | .nilFn=>some .nilFn
 | .nilIface=>some .nilIface
 | .sl _ els=>match all0 f els with
  | some l=>some (.sl .no l)
  | none=>none
 | .agg cs=>match all0 f cs with
  | some l=>some (.agg l)
  | none=>none
 | .tup cs=>match all0 f cs with
  | some l=>some (.tup l)
  | none=>none
 | .rs id len _=>match h.t.get id with
  | some (.row n _ s cs)=>bif Nat.beq n len&&Nat.beq cs.length (n*s)then match all0 f cs with
   | some l=>some (.sl .no (chunks s len l))
   | none=>none
   else none
  | _=>none
 | _=>none
def cL:Nat→H→AV→Option AV
 | 0,_,_=>none
 | k+1,h,v=>cE (cL k h) h v
theorem all0_get {α β:Type} {f:α→Option β}:∀ {l:List α} {m:List β},all0 f l=some m→l.length=m.length∧∀ (i:Nat) x y,l[i]?=some x→m[i]?=some y→f x=some y
 | [],m,h=>by simp[all0]at h;subst h;exact⟨rfl,fun i x y h=>by simp at h⟩
 | a::l,m,h=>by
  simp only[all0]at h
  cases ha:f a with
  | none=>rw[ha]at h;simp at h
  | some b=>
   cases hl:all0 f l with
   | none=>rw[ha,hl]at h;simp at h
   | some k=>
    rw[ha,hl]at h
    simp only[Option.some.injEq]at h
    subst h
    obtain⟨h1,h2⟩:=all0_get hl
    refine⟨by simp[h1],fun i x y hx hy => ?_⟩
    cases i with
    | zero=>simp at hx hy;subst hx;subst hy;exact ha
    | succ i=>exact h2 i x y (by simpa using hx) (by simpa using hy)
theorem all0_mono {α β:Type} {f g:α→Option β} (hfg:∀ a b,f a=some b→g a=some b):∀ {l:List α} {m:List β},all0 f l=some m→all0 g l=some m
 | [],m,h=>h
 | a::l,m,h=>by
  simp only[all0]at h ⊢
  cases ha:f a with
  | none=>rw[ha]at h;simp at h
  | some b=>
   cases hl:all0 f l with
   | none=>rw[ha,hl]at h;simp at h
   | some k=>rw[hfg a b ha,all0_mono hfg hl];rw[ha,hl]at h;exact h
theorem snapStep_mono {f g:AV→Option AV} (hfg:∀ a b,f a=some b→g a=some b) {h:H} {v u:AV} (hs:cE f h v=some u):cE g h v=some u:=by
 cases v with
 | sl o els=>
  simp only[cE]at hs ⊢
  split at hs
  ·rename_i l hl;rw[all0_mono hfg hl];exact hs
  ·cases hs
 | agg els=>
  simp only[cE]at hs ⊢
  split at hs
  ·rename_i l hl;rw[all0_mono hfg hl];exact hs
  ·cases hs
 | tup els=>
  simp only[cE]at hs ⊢
  split at hs
  ·rename_i l hl;rw[all0_mono hfg hl];exact hs
  ·cases hs
 | rs id len own=>
  simp only[cE]at hs ⊢
  split at hs
  ·rename_i n e s cs hg
   cases hc:(Nat.beq n len&&Nat.beq cs.length (n*s))with
   | false=>rw[hc]at hs;simp at hs
   | true=>
    rw[hc]at hs
    simp only[cond_true]at hs ⊢
    split at hs
    ·rename_i l hl;rw[all0_mono hfg hl];exact hs
    ·cases hs
  ·cases hs
 | ptr a=>cases a<;>exact hs
 | map a=>cases a<;>exact hs
 | bool _=>exact hs
 | int _ _=>exact hs
 | str _=>exact hs
 | nilFn=>exact hs
 | nilIface=>exact hs
 | vp _=>exact hs
 | fn _ _ _=>exact hs
 | iface _ _=>exact hs
 | rp _ _ _=>exact hs
 | rv _ _ _=>exact hs
theorem snap_more {h:H}:∀ {k:Nat} {v u:AV},cL k h v=some u→cL (k+1) h v=some u:=by
 intro k
 induction k with
 | zero=>intro v u hs;simp[cL]at hs
 | succ k ih=>intro v u hs;exact snapStep_mono (fun a b=>ih) hs
theorem snap_cells {k:Nat} {h:H} {x u:AV} (hs:cL (k+1) h x=some u):x.cells.length=u.cells.length∧∀ (j:Nat) y z,x.cells[j]?=some y→u.cells[j]?=some z→cL (k+1) h y=some z∨cL k h y=some z:=by
 have one:x.cells=[x]→u.cells=[u]→x.cells.length=u.cells.length∧∀ (j:Nat) y z,x.cells[j]?=some y→u.cells[j]?=some z→cL (k+1) h y=some z∨cL k h y=some z:=by
  intro e1 e2
  rw[e1,e2]
  refine⟨rfl,fun j y z hy hz => ?_⟩
  cases j with
  | zero=>simp at hy hz;subst hy;subst hz;exact .inl hs
  | succ j=>simp at hy
 cases x with
 | agg cs=>
  simp only[cL,cE]at hs
  cases hl:all0 (cL k h) cs with
  | none=>rw[hl]at hs;simp at hs
  | some l=>
   rw[hl]at hs
   simp only[Option.some.injEq]at hs
   subst hs
   obtain⟨h1,h2⟩:=all0_get hl
   exact⟨h1,fun j y z hy hz => .inr (h2 j y z hy hz)⟩
 | sl o els=>
  refine one rfl ?_
  simp only[cL,cE]at hs
  split at hs
  ·injection hs with hs;subst hs;rfl
  ·cases hs
 | rs id len o=>
  refine one rfl ?_
  simp only[cL,cE]at hs
  split at hs
  ·rename_i n e s cs hg
   cases hc:(Nat.beq n len&&Nat.beq cs.length (n*s))with
   | false=>rw[hc]at hs;simp at hs
   | true=>
    rw[hc]at hs
    simp only[cond_true]at hs
    split at hs
    ·injection hs with hs;subst hs;rfl
    ·cases hs
  ·cases hs
 | ptr a=>
  refine one rfl ?_
  cases a<;>simp only[cL,cE,reduceCtorEq,Option.some.injEq]at hs
  subst hs;rfl
 | map a=>
  refine one rfl ?_
  cases a<;>simp only[cL,cE,reduceCtorEq,Option.some.injEq]at hs
  subst hs;rfl
 | bool b=>refine one rfl ?_;simp only[cL,cE,Option.some.injEq]at hs;subst hs;rfl
 | int j n=>refine one rfl ?_;simp only[cL,cE,Option.some.injEq]at hs;subst hs;rfl
 | str b=>refine one rfl ?_;simp only[cL,cE,Option.some.injEq]at hs;subst hs;rfl
 | nilFn=>refine one rfl ?_;simp only[cL,cE,Option.some.injEq]at hs;subst hs;rfl
 | nilIface=>refine one rfl ?_;simp only[cL,cE,Option.some.injEq]at hs;subst hs;rfl
 | vp _=>simp[cL,cE]at hs
 | fn _ _ _=>simp[cL,cE]at hs
 | iface _ _=>simp[cL,cE]at hs
 | tup els=>
  refine one rfl ?_
  simp only[cL,cE]at hs
  split at hs
  ·injection hs with hs;subst hs;rfl
  ·cases hs
 | rp _ _ _=>simp[cL,cE]at hs
 | rv _ _ _=>simp[cL,cE]at hs
def Gz (G:Gh):Gh:={ G with fr:=fun _=>none }
theorem invz {G:Gh} {w:World} {h:H} (I:Inv G w h):Inv (Gp (Gz G)) w ⟨.e,0⟩ where
 wf:=fun id o h=>by cases id<;>simp[T.get]at h
 frb:=fun b k h=>by simp[Gp,Gz]at h
 bas:=I.bas
 obj:=fun id b h=>by simp[Gp]at h
 chn:=fun id n v h=>by simp[Gp]at h
 ka:=fun p hp=>⟨(I.ka p hp).1,(I.ka p hp).2.1,rfl⟩
theorem snap_to {G G':Gh} {w:World} {h:H} (I:Inv G w h) (hS:∀ b o x,Stb G w b o x→Stb G' w b o x) (hR:∀ b id,G.ow b=some id→G'.fr b=none):∀ (k:Nat) (v u:AV) (V:Value),cL k h v=some u→VR G w V v→VR G' w V u:=by
 intro k
 induction k with
 | zero=>intro v u V hs;simp[cL]at hs
 | succ k ih=>
  intro v u V hs r
  cases v with
  | bool b=>simp only[cL,cE,Option.some.injEq]at hs;subst hs;cases r;exact .bool _
  | int j n=>simp only[cL,cE,Option.some.injEq]at hs;subst hs;cases r;exact .int _ _
  | str b=>simp only[cL,cE,Option.some.injEq]at hs;subst hs;cases r;exact .str _
  | nilFn=>simp only[cL,cE,Option.some.injEq]at hs;subst hs;cases r;exact .nilFn
  | nilIface=>simp only[cL,cE,Option.some.injEq]at hs;subst hs;cases r;exact .nilIface
  | ptr a=>cases a<;>simp only[cL,cE,reduceCtorEq,Option.some.injEq]at hs;subst hs;cases r;exact .ptr0
  | map a=>cases a<;>simp only[cL,cE,reduceCtorEq,Option.some.injEq]at hs;subst hs;cases r;exact .map0
  | vp _=>simp[cL,cE]at hs
  | fn _ _ _=>simp[cL,cE]at hs
  | iface _ _=>simp[cL,cE]at hs
  | rp _ _ _=>simp[cL,cE]at hs
  | rv _ _ _=>simp[cL,cE]at hs
  | tup cs=>
   simp only[cL,cE]at hs
   split at hs
   ·rename_i l hl
    injection hs with hs
    subst hs
    obtain⟨h1,h2⟩:=all0_get hl
    cases r with
    | tup a c ha hr=>
     refine .tup a l (by rw[ha,h1]) fun i v x hv hx => ?_
     have hil:i<cs.length:=by rw[h1];exact aI hx
     exact ih _ _ _ (h2 i _ _ (List.getElem?_eq_getElem hil) hx) (hr i v _ hv (List.getElem?_eq_getElem hil))
   ·cases hs
  | agg cs=>
   simp only[cL,cE]at hs
   split at hs
   ·rename_i l hl
    injection hs with hs
    subst hs
    obtain⟨h1,h2⟩:=all0_get hl
    cases r with
    | agg a c ha hr=>
     refine .agg a l (by rw[ha,h1]) fun i v x hv hx => ?_
     have hil:i<cs.length:=by rw[h1];exact aI hx
     exact ih _ _ _ (h2 i _ _ (List.getElem?_eq_getElem hil) hx) (hr i v _ hv (List.getElem?_eq_getElem hil))
   ·cases hs
  | sl o els=>
   simp only[cL,cE]at hs
   split at hs
   ·rename_i l hl
    injection hs with hs
    subst hs
    obtain⟨h1,h2⟩:=all0_get hl
    cases k with
    | zero=>
     cases els with
     | nil=>
      have:l=[]:=List.eq_nil_of_length_eq_zero h1.symm
      subst this
      cases r with
      | sl0 A cap o hn ho=>exact .sl0 A cap .no hn trivial
      | sl b off len cap s o els f hl' hc hs' h3 h4 ho=>exact .sl b off len cap s .no [] f hl' hc hs' (fun i j hi=>by simp at hl';omega) (fun i j x y hx=>by simp at hx) trivial
     | cons a els=>simp[all0,cL]at hl
    | succ k=>
     cases r with
     | sl0 A cap o hn ho=>
      have:l=[]:=List.eq_nil_of_length_eq_zero h1.symm
      subst this
      exact .sl0 A cap .no hn trivial
     | sl b off len cap s o els f hl' hc hs' h3 h4 ho=>
      have hx':∀ (i:Nat) y,l[i]?=some y→∃ x,els[i]?=some x∧cL (k+1) h x=some y:=fun i y hy=>by
       have hil:i<els.length:=by rw[h1];exact aI hy
       exact⟨_,List.getElem?_eq_getElem hil,h2 i _ _ (List.getElem?_eq_getElem hil) hy⟩
      refine .sl b off len cap s .no l f (by rw[←h1,hl']) hc (fun x hx => ?_) (fun i j hi hj=>hS _ _ _ (h3 i j hi hj)) (fun i j x y hx hy => ?_) trivial
      ·obtain⟨i,hi⟩:=List.getElem?_of_mem hx
       obtain⟨x0,hx0,hs0⟩:=hx' i x hi
       rw[←(snap_cells hs0).1]
       exact hs' _ (List.mem_of_getElem? hx0)
      ·obtain⟨x0,hx0,hs0⟩:=hx' i x hx
       obtain⟨c1,c2⟩:=snap_cells hs0
       have hjl:j<x0.cells.length:=by rw[c1];exact aI hy
       have hr:=h4 i j x0 _ hx0 (List.getElem?_eq_getElem hjl)
       rcases c2 j _ y (List.getElem?_eq_getElem hjl) hy with e|e
       ·exact ih _ _ _ e hr
       ·exact ih _ _ _ (snap_more e) hr
   ·cases hs
  | rs id len own=>
   simp only[cL,cE]at hs
   split at hs
   ·rename_i n e s cs hg
    cases hc:(Nat.beq n len&&Nat.beq cs.length (n*s))with
    | false=>rw[hc]at hs;simp at hs
    | true=>
     rw[hc]at hs
     simp only[cond_true]at hs
     simp only[Bool.and_eq_true,bV]at hc
     obtain⟨rfl,hcl⟩:=hc
     split at hs
     ·rename_i l hl
      injection hs with hs
      subst hs
      obtain⟨h1,h2⟩:=all0_get hl
      cases r with
      | rs _ _ b cap _ hcap hrow=>
       obtain⟨cur,cap1,hb,_,_,_,_,_,_,hv,_,how,hspos,_⟩:=I.row hrow hg
       have hel:∀ (i:Nat) x,(chunks s n l)[i]?=some x→i<n∧x = .agg ((l.drop (i*s)).take s)∧((l.drop (i*s)).take s).length=s:=by
        intro i x hx
        obtain⟨q1,q2⟩:=chunks_get s n l i x hx
        refine⟨q1,q2,?_⟩
        rw[List.length_take,List.length_drop,←h1,hcl]
        have:=Nat.mul_le_mul_right s (Nat.succ_le_of_lt q1)
        rw[Nat.succ_mul]at this
        omega
       have hcell:∀ (q:Nat) x,cs[q]?=some x→∃ V,w.cell? ⟨b,q,none⟩=some V∧VR G w V x:=by
        intro q x hx
        have hq:q<(cur.toList.take (n*s)).length:=by rw[hv.1];exact aI hx
        refine⟨_,?_,hv.2 q _ x (List.getElem?_eq_getElem hq) hx⟩
        rw[cell_at hb]
        have hq2:=hq
        rw[List.length_take]at hq2
        rw[List.getElem_take]
        have:q<cur.size:=by have:=Nat.lt_of_lt_of_le hq2 (Nat.min_le_right ..);simpa using this
        simp[this]
       have hat:∀ i j,i<n→j<s→i*s+j<cs.length:=by
        intro i j hi hj
        rw[hcl]
        have:=Nat.mul_le_mul_right s (Nat.succ_le_of_lt hi)
        rw[Nat.succ_mul]at this
        omega
       refine .sl b 0 n cap s .no _ (fun i j=>(w.cell? ⟨b,i*s+j,none⟩).getD undef) (chunks_length s n l) hcap (fun x hx => ?_) (fun i j hi hj => ?_) (fun i j x y hx hy => ?_) trivial
       ·obtain⟨i,hi⟩:=List.getElem?_of_mem hx
        obtain⟨_,q2,q3⟩:=hel i x hi
        rw[q2];exact q3
       ·obtain⟨V,hV,_⟩:=hcell _ _ (List.getElem?_eq_getElem (hat i j hi hj))
        rw[Nat.zero_add,hV]
        exact⟨hV,.inl (hR _ _ how)⟩
       ·obtain⟨q1,q2,q3⟩:=hel i x hx
        subst q2
        have hj:j<s:=by rw[←q3];exact aI hy
        simp only[AV.cells,List.getElem?_take_of_lt hj,List.getElem?_drop]at hy
        obtain⟨V,hV,hr⟩:=hcell _ _ (List.getElem?_eq_getElem (hat i j q1 hj))
        rw[hV]
        exact ih _ _ _ (h2 _ _ _ (List.getElem?_eq_getElem (hat i j q1 hj)) hy) hr
     ·cases hs
   ·cases hs
theorem snap_VR {G:Gh} {w:World} {h:H} (I:Inv G w h) (k:Nat) (v u:AV) (V:Value) (hs:cL k h v=some u) (r:VR G w V v):VR (Gp (Gz G)) w V u:=
 snap_to I (fun b o x s=>⟨s.1,.inl rfl⟩) (fun b id _=>rfl) k v u V hs r
def primSnap (k:Nat) (p:List AV→Option AV):List AV→H→Option (AV × H):=fun args h=>
 match all0 (cL k h) args with
 | none=>none
 | some args'=>match p args' with
  | none=>none
  | some v=>some (v,h)
theorem primSnap_ok {P:Program} {f k:Nat} {fn:Func} (q1:P.funcs[f]?=some fn) (q2:(fn.name == "runtime.NumGoroutine")=false) (q3:fn.body.isNone=false) {p:List AV→Option AV}
  (hp:∀ args v,p args=some v→∀ (G:Gh) (w:World) (A:Array Value),Inv (Gp G) w ⟨.e,0⟩→VRs (Gp G) w A.toList args →
   Calls P f A w fun e w'=>∃ V,e = .returned V∧Old w w'∧∀ G':Gh,(∀ b,w.heap.size≤b→G'.fr b=none)→VR G' w' V v):cJ P f (primSnap k p):=by
 refine⟨⟨fn,q1,q2,q3⟩,fun args h v hk he G w A I hA => ?_⟩
 unfold primSnap at he
 cases hs:all0 (cL k h) args with
 | none=>rw[hs]at he;simp at he
 | some args'=>
  rw[hs]at he
  simp only at he
  cases hv:p args' with
  | none=>rw[hv]at he;simp at he
  | some v0=>
   rw[hv]at he
   simp only[Option.some.injEq,Prod.mk.injEq]at he
   obtain⟨rfl,rfl⟩:=he
   obtain⟨h1,h2⟩:=all0_get hs
   have hA':VRs (Gp (Gz G)) w A.toList args':=⟨by rw[hA.1,h1],fun i u x hu hx=>by
    have hil:i<args.length:=by rw[h1];exact aI hx
    exact snap_VR I k _ _ _ (h2 i _ _ (List.getElem?_eq_getElem hil) hx) (hA.2 i u _ hu (List.getElem?_eq_getElem hil))⟩
   refine(hp args' v0 hv (Gz G) w A (invz I) hA').mono ?_
   rintro e w' ⟨V,rfl,O,hV⟩
   refine⟨G,V,rfl,hV G fun b hb => ?_,grow_inv I O.os O.tape O.output O.size O.same,grow_ext G _ O.os O.tape O.output O.size O.same⟩
   cases hf:G.fr b with
   | none=>rfl
   | some k=>exact absurd (I.frb b k hf).2 (by omega)
end Go.Ev
namespace Go.Ev
variable [Inhabited KA0] [MT]
theorem row0_chain {G:Gh} {w:World} {h:H} (I:Inv G w h) {id e s:Nat} (hg:h.t.get id=some (.row 0 e s [])):Inv G w (h.put id (.chain 0 e s)) where
 wf:=fun j o hj=>by
  by_cases ej:j=id
  ·subst ej;exact I.wf j _ hg
  ·rw[show(h.put id (.chain 0 e s)).t.get j=h.t.get j from T.aD _ _ ej]at hj
   exact I.wf j o hj
 frb:=I.frb
 bas:=I.bas
 obj:=fun j b hj=>by
  obtain⟨h1,h2,h3,h4⟩:=I.obj j b hj
  have ej:j≠id:=by
   rintro rfl
   rw[hg]at h4
   exact h4.elim
  refine⟨h1,h2,h3,?_⟩
  rw[show(h.put id (.chain 0 e s)).t.get j=h.t.get j from T.aD _ _ ej]
  exact h4
 chn:=fun j n v hj=>by
  obtain⟨h1,g,e',size,xs,cap,k,h2,h3,h4,h5,h6,h7⟩:=I.chn j n v hj
  by_cases ej:j=id
  ·subst ej
   rw[hg]at h2
   rcases h2 with ⟨h2,_⟩|⟨cs,h2,rfl,_⟩
   ·cases h2
   ·simp only[Option.some.injEq,Obj.row.injEq]at h2
    obtain⟨rfl,rfl,rfl,rfl⟩:=h2
    exact⟨h1,g,e,s,xs,cap,0,.inl ⟨T.bO _ _ _,by simp⟩,h3,h4,h5,h6,h7⟩
  ·exact⟨h1,g,e',size,xs,cap,k,by rw[show(h.put id (.chain 0 e s)).t.get j=h.t.get j from T.aD _ _ ej];exact h2,h3,h4,h5,h6,h7⟩
 ka:=I.ka
theorem set_set {α:Type} (t:T α) (k:Nat) (a b:α):∀ j,((t.set k a).set k b).get j=(t.set k b).get j:=by
 intro j
 by_cases e:j=k
 ·subst e;rw[T.bO,T.bO]
 ·rw[T.aD _ _ e,T.aD _ _ e,T.aD _ _ e]
theorem Inv.same {G:Gh} {w:World} {h h':H} (I:Inv G w h) (hn:h'.nx=h.nx) (hg:∀ j,h'.t.get j=h.t.get j):Inv G w h' where
 wf:=fun j o hj=>by rw[hn];rw[hg]at hj;exact I.wf j o hj
 frb:=I.frb
 bas:=I.bas
 obj:=fun j b hj=>by rw[hn,hg];exact I.obj j b hj
 chn:=fun j n v hj=>by rw[hn,hg];exact I.chn j n v hj
 ka:=I.ka
theorem Ext.same {G G':Gh} {w w':World} {h h1 h2:H} (X:Ext G w h G' w' h1) (hn:h2.nx=h1.nx) (hg:∀ j,h2.t.get j=h1.t.get j):Ext G w h G' w' h2 where
 os:=X.os
 tape:=X.tape
 output:=X.output
 size:=X.size
 base:=X.base
 still:=X.still
 part:=X.part
 ρ:=X.ρ
 cv:=X.cv
 nx:=by rw[hn];exact X.nx
 unm:=fun j a b c=>by rw[hg];exact X.unm j a b c
 own:=X.own
theorem new_room {G:Gh} {w:World} {h:H} (I:Inv G w h) {e s cap:Nat} {C:Array Value} (hs:0<s) (hm:cap≤maxLen) (hC:C.size=cap*s) :
  ∃ G',Inv G' (w.alloc (.cells C e)) (h.new (.chain 0 e s))∧Ext G w h G' (w.alloc (.cells C e)) (h.new (.chain 0 e s))∧VR G' (w.alloc (.cells C e)) (.slice (some ⟨w.heap.size,0,none⟩) 0 cap) (.sl (.ch h.nx) []):=by
 obtain⟨f1,f2,f3⟩:=I.fresh
 have A:=addRow_R (new_inv I (.row 0 e s [])) h.nx (Nat.lt_succ_self _) f1 f2 (n:=0) (e:=e) (s:=s) (cap:=cap) (C:=C) (cs:=[]) (T.bO _ _ _) hs (Nat.zero_le _) hm hC (by simpa using VRs.nil G w)
 have I1:=row0_chain A.inv (T.bO _ _ _)
 have eg:∀ j,(h.new (.chain 0 e s)).t.get j=((h.new (.row 0 e s [])).put h.nx (.chain 0 e s)).t.get j:=fun j=>(set_set _ _ _ _ j).symm
 have I2:Inv _ _ (h.new (.chain 0 e s)):=I1.same rfl eg
 have X0:=A.ext h (Nat.le_succ _) (fun j hj _ _=>by omega) (fun j hj=>T.aD _ _ (by omega))
 have X1:Ext G w h _ (w.alloc (.cells C e)) (h.new (.chain 0 e s)):=
  ⟨X0.os,X0.tape,X0.output,X0.size,X0.base,X0.still,X0.part,X0.ρ,X0.cv,X0.nx,fun j a b c=>⟨T.aD _ _ (by omega),(X0.unm j a b c).2.1,(X0.unm j a b c).2.2⟩,X0.own⟩
 refine⟨_,I2,X1,.sl0 _ cap _ (fun e=>by cases e) ⟨0,_,by simp[Gh.addRow],Nat.le_refl _,fun _=>rfl⟩⟩
theorem post_snap {G:Gh} {w:World} {h h1:H} (I:Inv G w h) {n:Nat} {u v0:AV} (hs:cL n h1 u=some v0) {e:Ending} {w':World} (hp:Post (Gp G) w ⟨.e,0⟩ u h1 e w'):Post G w h v0 h e w':=by
 obtain⟨G1,V,rfl,hV,I1,X⟩:=hp
 have same:∀ j,j<w.heap.size→w'.heap[j]?=w.heap[j]?:=fun j hj=>(X.own j hj rfl).1
 have new:∀ b,w.heap.size≤b→G.fr b=none:=fun b hb=>by
  cases hf:G.fr b with
  | none=>rfl
  | some k=>exact absurd (I.frb b k hf).2 (by omega)
 refine⟨G,V,rfl,snap_to I1 (fun b o x s=>⟨s.1,?_⟩) (fun b id ho => ?_) n u v0 V hs hV,grow_inv I X.os X.tape X.output X.size same,grow_ext G _ X.os X.tape X.output X.size same⟩
 ·by_cases hbl:b<w.heap.size
  ·have:=s.2
   rw[(X.own b hbl rfl).2.1]at this
   exact this
  ·exact .inl (new b (by omega))
 ·by_cases hbl:b<w.heap.size
  ·rw[(X.own b hbl rfl).2.2]at ho
   cases ho
  ·exact new b (by omega)
def primGrow (e s byt:Nat):List AV→H→Option (AV × H)
 | [.sl .full [],.int .i64 (.ofNat n)],h=>bif Nat.beq n 0 then some (.sl .full [],h)else bif Nat.ble (n*byt) 140737488355328 then some (.sl (.ch h.nx) [],h.new (.chain 0 e s))else none
 | _,_=>none
theorem run_append_zeros {P:Program} (w:World) (t tn ty e:TypeId) (i:TypeInfo) (z:Value) (k kn:IntKind) (ht:P.underlying t=some (.slice e)) (htn:P.underlying tn=some (.int kn)) (hi:P.info? e=some i) (hz:i.zero=some z)
  (A:Option Addr) (n:Nat) (h0:0<n) (hs:0<i.size) (h63:(n:Int)≤9223372036854775807) (h48:n*i.bytes≤281474976710656) :
  (Builtin.append_ #[t,tn] ty #[.slice A 0 0,.int k n]).run P w =
   .ok (.slice (some ⟨w.heap.size,0,none⟩) n (grownCap w n 0 e)) (w.drew.alloc (.cells (Builtin.zeroCells z.cells n++Builtin.zeroCells z.cells (grownCap w n 0 e-n)) e)):=by
 cases A with
 | none=>exact Lib.run_append_nil_zeros w t tn ty e i z k kn ht htn hi hz n h0 hs h63 h48
 | some a=>
  have hn:n≠0:=by omega
  have hw:IntKind.i64.wrap (n:Int)=n:=by rw[IntKind.wrap_i64];omega
  have h63':¬ (9223372036854775807<(n:Int)):=by omega
  have h48':¬ (281474976710656<Builtin.nextslicecap n 0*i.bytes):=by rw[nextslicecap_zero h0];omega
  have h48i:¬ (281474976710656<(n:Int)*(i.bytes:Int)):=by
   rw[←Int.natCast_mul]
   omega
  have hneg:¬ ((n:Int)<0):=by omega
  have hns:¬ (n*i.size=0):=Nat.mul_ne_zero hn (by omega)
  have hf:(Builtin.firstCells i.size 0 (.slice (some a) 0 0)).run P w.drew = .ok #[] w.drew:=by simp[Builtin.firstCells,loadCells,loadCellsFrom]
  simp[Builtin.append_,run_underlying ht,run_underlying htn,sizeOf,typeInfo,zeroValue,hi,hz,asInt,asIntOf,hw,hn,hneg,hns,h63',h48',h48i,Question.forced,hf,newRow,grownCap]
end Go.Ev
