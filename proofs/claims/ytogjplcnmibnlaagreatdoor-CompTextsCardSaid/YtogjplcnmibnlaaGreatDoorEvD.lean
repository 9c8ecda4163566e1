/- What the abstract machine's values and heap say of the model's: the relation, and that it lasts. -/
import Derived.Test.YtogjplcnmibnlaaGreatDoorEvA
set_option autoImplicit false
set_option linter.unusedSectionVars false
set_option linter.unusedVariables false
set_option linter.unusedSimpArgs false
namespace Go.Ev
namespace T
variable {α:Type}
theorem bif_even {β:Type} (k:Nat) (x y:β):(bif Nat.beq (Nat.mod k 2) 0 then x else y)=if k % 2=0 then x else y:=by
 show(bif Nat.beq (k % 2) 0 then x else y)=_
 by_cases h:k % 2=0
 ·simp[h]
 ·have:Nat.beq (k % 2) 0=false:=by
   cases hb:Nat.beq (k % 2) 0
   ·rfl
   ·exact absurd (Nat.eq_of_beq_eq_true hb) h
  simp[this,h]
theorem put_same (f:Nat):∀ (t:T α) (k:Nat) (v:α),k<f→(put f t k v).get k=some v:=by
 induction f with
 | zero=>intro t k v h;omega
 | succ f ih=>
  intro t k v h
  cases t with
  | e=>
   cases k with
   | zero=>rfl
   | succ k=>
    simp only[put,bif_even]
    split
    ·rename_i he;simp only[get,bif_even,he,if_true];exact ih _ _ _ (Nat.lt_of_le_of_lt (Nat.div_le_self k 2) (by omega))
    ·rename_i he;simp only[get,bif_even,he,if_false];exact ih _ _ _ (Nat.lt_of_le_of_lt (Nat.div_le_self k 2) (by omega))
  | n o l r=>
   cases k with
   | zero=>rfl
   | succ k=>
    simp only[put,bif_even]
    split
    ·rename_i he;simp only[get,bif_even,he,if_true];exact ih _ _ _ (Nat.lt_of_le_of_lt (Nat.div_le_self k 2) (by omega))
    ·rename_i he;simp only[get,bif_even,he,if_false];exact ih _ _ _ (Nat.lt_of_le_of_lt (Nat.div_le_self k 2) (by omega))
theorem get_e (k:Nat):(T.e:T α).get k=none:=by cases k<;>rfl
theorem put_ne (f:Nat):∀ (t:T α) (k j:Nat) (v:α),j≠k→(put f t k v).get j=t.get j:=by
 induction f with
 | zero=>intro t k j v h;rfl
 | succ f ih=>
  intro t k j v h
  cases t with
  | e=>
   rw[get_e]
   cases k with
   | zero=>
    cases j with
    | zero=>exact absurd rfl h
    | succ j=>
     simp only[put,get,bif_even]
     split
     ·exact get_e (Nat.div j 2)
     ·exact get_e (Nat.div j 2)
   | succ k=>
    simp only[put,bif_even]
    cases j with
    | zero=>split<;>rfl
    | succ j=>
     split
     ·rename_i he
      simp only[get,bif_even]
      split
      ·rename_i hj
       rw[ih _ _ _ _ (by show j / 2≠k / 2;omega)];exact get_e (Nat.div j 2)
      ·exact get_e (Nat.div j 2)
     ·rename_i he
      simp only[get,bif_even]
      split
      ·exact get_e (Nat.div j 2)
      ·rename_i hj
       rw[ih _ _ _ _ (by show j / 2≠k / 2;omega)];exact get_e (Nat.div j 2)
  | n o l r=>
   cases k with
   | zero=>
    cases j with
    | zero=>exact absurd rfl h
    | succ j=>rfl
   | succ k=>
    simp only[put,bif_even]
    cases j with
    | zero=>split<;>rfl
    | succ j=>
     split
     ·rename_i he
      simp only[get,bif_even]
      split
      ·rename_i hj
       rw[ih _ _ _ _ (by show j / 2≠k / 2;omega)]
      ·rfl
     ·rename_i he
      simp only[get,bif_even]
      split
      ·rfl
      ·rename_i hj
       rw[ih _ _ _ _ (by show j / 2≠k / 2;omega)]
theorem bO (t:T α) (k:Nat) (v:α):(t.set k v).get k=some v:=put_same _ _ _ _ (by omega)
theorem aD (t:T α) {k j:Nat} (v:α) (h:j≠k):(t.set k v).get j=t.get j:=put_ne _ _ _ _ _ h
end T
theorem bV {a b:Nat}:Nat.beq a b=true↔a=b:=⟨Nat.eq_of_beq_eq_true,fun h=>by subst h;exact Nat.beq_refl a⟩
theorem beq_no {a b:Nat} (h:¬ a=b):Nat.beq a b=false:=by
 cases hb:Nat.beq a b with
 | false=>rfl
 | true=>exact absurd (bV.1 hb) h
theorem blt_no {a b:Nat} (h:¬ a<b):Nat.blt a b=false:=by
 cases hb:Nat.blt a b with
 | false=>rfl
 | true=>exact absurd (by simpa[Nat.blt,Nat.ble_eq,Nat.succ_le_iff]using hb) h
theorem cR {a b:Nat}:Nat.blt a b=true↔a<b:=by simp[Nat.blt,Nat.ble_eq];omega
theorem ikBeq_eq {a b:IntKind}:bK a b=true↔a=b:=by cases a<;>cases b<;>simp[bK]
theorem bU (a b:Int):aE a b=(a==b):=by
 cases a<;>cases b<;>simp only[aE]
 ·rename_i m n
  by_cases h:m=n
  ·subst h;simp
  ·rw[beq_no h];symm;rw[beq_eq_false_iff_ne];intro e;injection e;omega
 ·symm;rw[beq_eq_false_iff_ne];simp
 ·symm;rw[beq_eq_false_iff_ne];simp
 ·rename_i m n
  by_cases h:m=n
  ·subst h;simp
  ·rw[beq_no h];symm;rw[beq_eq_false_iff_ne];simp;omega
theorem fX:∀ (a b:List Nat),aB a b=(a==b)
 | [],[]=>rfl
 | [],_::_=>rfl
 | _::_,[]=>rfl
 | x::a,y::b=>by
  simp only[aB,fX a b,List.cons_beq_cons]
  congr 1
  by_cases h:x=y
  ·subst h;simp
  ·rw[beq_no h];symm;simp[h]
theorem optNatBeq_eq {a b:Option Nat}:optNatBeq a b=true↔a=b:=by cases a<;>cases b<;>simp[optNatBeq]
theorem optPairBeq_eq {a b:Option (Nat × Nat)}:optPairBeq a b=true↔a=b:=by
 cases a with
 | none=>cases b<;>simp[optPairBeq]
 | some p=>cases b with
  | none=>simp[optPairBeq]
  | some q=>obtain⟨x,y⟩:=p;obtain⟨z,u⟩:=q;simp[optPairBeq]
theorem Own.beq_eq {a b:Own}:a.beq b=true↔a=b:=by cases a<;>cases b<;>simp[Own.beq]
mutual
theorem AV.beq_eq:∀ (a b:AV),AV.beq a b=true→a=b
 | .bool _,b=>by cases b<;>simp[AV.beq]
 | .int _ _,b=>by cases b<;>simp[AV.beq,ikBeq_eq,bU]
 | .str _,b=>by cases b<;>simp[AV.beq,fX]
 | .ptr _,b=>by cases b<;>simp[AV.beq,optPairBeq_eq]
 | .vp l,b=>by cases b<;>simp[AV.beq];exact AV.beqs_eq l _
 | .sl o l,b=>by cases b<;>simp[AV.beq,Own.beq_eq];intro h1 h2;exact⟨h1,AV.beqs_eq l _ h2⟩
 | .map _,b=>by cases b<;>simp[AV.beq,optNatBeq_eq]
 | .fn _ l m,b=>by cases b<;>simp[AV.beq];intro h1 h2 h3;exact⟨h1,AV.beqs_eq l _ h2,AV.beqs_eq m _ h3⟩
 | .nilFn,b=>by cases b<;>simp[AV.beq]
 | .iface _ v,b=>by cases b<;>simp[AV.beq];intro h1 h2;exact⟨h1,AV.beq_eq v _ h2⟩
 | .nilIface,b=>by cases b<;>simp[AV.beq]
 | .agg l,b=>by cases b<;>simp[AV.beq];exact AV.beqs_eq l _
 | .tup l,b=>by cases b<;>simp[AV.beq];exact AV.beqs_eq l _
 | .rs _ _ _,b=>by cases b<;>simp[AV.beq]
 | .rp _ _ _,b=>by cases b<;>simp[AV.beq]
 | .rv _ _ _,b=>by cases b<;>simp[AV.beq]
theorem AV.beqs_eq:∀ (a b:List AV),AV.beqs a b=true→a=b
 | [],b=>by cases b<;>simp[AV.beqs]
 | x::a,b=>by cases b<;>simp[AV.beqs];intro h1 h2;exact⟨AV.beq_eq x _ h1,AV.beqs_eq a _ h2⟩
end
structure Gh where
 ρ:Nat→Option Nat
 cv:Nat→Option (Nat × Value)
 fr:Nat→Option Nat
 ow:Nat→Option Nat
 base:Nat
def Stb (G:Gh) (w:World) (b o:Nat) (v:Value):Prop:=
 w.cell? ⟨b,o,none⟩=some v∧(G.fr b=none∨∃ k,G.fr b=some k∧o<k)
def OwnR (G:Gh):Own→Value→Nat→Nat→Prop
 | .no,_,_,_=>True
 | .full,_,len,cap=>cap=len
 | .ch id,v,len,_=>∃ n v',G.cv id=some (n,v')∧len≤n∧(n=len→v'=v)
def RowR (G:Gh) (id len b:Nat) (p:Nat→Prop):Prop:=∃ n v',G.cv id=some (n,v')∧len≤n∧(n=len→∃ cap,v' = .slice (some ⟨b,0,none⟩) len cap∧p cap)
theorem RowR.imp {G:Gh} {id len b:Nat} {p q:Nat→Prop} (h:∀ c,p c→q c) (r:RowR G id len b p):RowR G id len b q:=by
 obtain⟨n,v',h1,h2,h3⟩:=r
 exact⟨n,v',h1,h2,fun e=>by obtain⟨c,h4,h5⟩:=h3 e;exact⟨c,h4,h c h5⟩⟩
inductive VR (G:Gh) (w:World):Value→AV→Prop
 | bool (b:Bool):VR G w (.bool b) (.bool b)
 | int (k:IntKind) (n:Int):VR G w (.int k n) (.int k n)
 | str (s:ByteArray):VR G w (.string s) (.str (bytesOf s))
 | ptr0:VR G w (.pointer none) (.ptr none)
 | ptr (id b off:Nat) (h:G.ρ id=some b):VR G w (.pointer (some ⟨b,off,none⟩)) (.ptr (some (id,off)))
 | vp (b off:Nat) (cs:List AV) (f:Nat→Value) (h1:∀ j,j<cs.length→Stb G w b (off+j) (f j)) (h2:∀ j x,cs[j]?=some x→VR G w (f j) x) :
   VR G w (.pointer (some ⟨b,off,none⟩)) (.vp cs)
 | sl0 (A:Option Addr) (cap:Nat) (o:Own) (hn:A=none→cap=0) (h:OwnR G o (.slice A 0 cap) 0 cap):VR G w (.slice A 0 cap) (.sl o [])
 | sl (b off len cap s:Nat) (o:Own) (els:List AV) (f:Nat→Nat→Value) (hl:els.length=len) (hc:len≤cap) (hs:∀ x∈els,x.cells.length=s)
   (h1:∀ i j,i<len→j<s→Stb G w b (off+i*s+j) (f i j)) (h2:∀ i j x y,els[i]?=some x→x.cells[j]?=some y→VR G w (f i j) y)
   (ho:OwnR G o (.slice (some ⟨b,off,none⟩) len cap) len cap):VR G w (.slice (some ⟨b,off,none⟩) len cap) (.sl o els)
 | map0:VR G w (.map none) (.map none)
 | map (id b:Nat) (h:G.ρ id=some b):VR G w (.map (some b)) (.map (some id))
 | fn (f:Nat) (a b:Array Value) (c d:List AV) (ha:a.size=c.length) (hb:b.size=d.length)
   (h1:∀ (i:Nat) v x,a[i]?=some v→c[i]?=some x→VR G w v x) (h2:∀ (i:Nat) v x,b[i]?=some v→d[i]?=some x→VR G w v x):VR G w (.func (.func f) a b) (.fn f c d)
 | nilFn:VR G w .nilFunc .nilFn
 | iface (t:Nat) (v:Value) (x:AV) (h:VR G w v x):VR G w (.iface t v) (.iface t x)
 | nilIface:VR G w .nilIface .nilIface
 | agg (a:Array Value) (c:List AV) (ha:a.size=c.length) (h1:∀ (i:Nat) v x,a[i]?=some v→c[i]?=some x→VR G w v x):VR G w (.agg a) (.agg c)
 | tup (a:Array Value) (c:List AV) (ha:a.size=c.length) (h1:∀ (i:Nat) v x,a[i]?=some v→c[i]?=some x→VR G w v x):VR G w (.tuple a) (.tup c)
 | rs (id len b cap:Nat) (own:Bool) (hc:len≤cap) (h:RowR G id len b fun c=>own=true→c=cap):VR G w (.slice (some ⟨b,0,none⟩) len cap) (.rs id len own)
 | rp (id len off b:Nat) (h:RowR G id len b fun _=>True):VR G w (.pointer (some ⟨b,off,none⟩)) (.rp id len off)
 | rv (id len k b cap:Nat) (hk:k≤len) (hc:len≤cap) (h:RowR G id len b fun c=>c=cap):VR G w (.slice (some ⟨b,0,none⟩) k cap) (.rv id len k)
structure KA0 where
 ka:List (Nat × (Option _root_.Go.Obj→Prop))
variable [Inhabited KA0] [MT]
def Kept [Inhabited KA0] (G:Gh) (w:World):Prop:=∀ p∈(default:KA0).ka,p.2 w.heap[p.1]?∧p.1<w.heap.size∧G.fr p.1=none
def VRs (G:Gh) (w:World) (a:List Value) (c:List AV):Prop:=a.length=c.length∧∀ (i:Nat) v x,a[i]?=some v→c[i]?=some x→VR G w v x
def ObjR (G:Gh) (w:World):Option Obj→Option Go.Obj→Prop
 | some (.cells cs),some (.cells c _ fz)=>fz=(0,0)∧VRs G w c.toList cs
 | some (.map es),some (.map ents _)=>ents.size=es.length∧∀ (i:Nat) e k x,ents[i]?=some e→es[i]?=some (k,x)→VR G w e.key k∧VR G w e.val x
 | _,_=>False
def ChR (G:Gh) (w:World) (o:Option Obj) (n e size k:Nat) (xs:List Value):Prop:=
 (o=some (.chain n e size)∧k=n*size)∨∃ cs,o=some (.row n e size cs)∧k=0∧VRs G w xs cs
structure Inv (G:Gh) (w:World) (h:H):Prop where
 wf:∀ id o,h.t.get id=some o→id<h.nx
 frb:∀ b k,G.fr b=some k→G.base≤b∧b<w.heap.size
 bas:G.base≤w.heap.size
 obj:∀ id b,G.ρ id=some b→id<h.nx∧G.fr b=some 0∧G.ow b=some id∧ObjR G w (h.t.get id) w.heap[b]?
 chn:∀ id n v,G.cv id=some (n,v)→id<h.nx∧∃ g e size xs cap k,ChR G w (h.t.get id) n e size k xs∧v = .slice (some ⟨g,0,none⟩) n cap∧w.ownsRow G.base e size v n xs∧G.fr g=some k∧G.ow g=some id∧0<size
 ka:Kept G w
structure Ext (G:Gh) (w:World) (h:H) (G':Gh) (w':World) (h':H):Prop where
 os:w'.os=w.os
 tape:w'.tape=w.tape
 output:w'.output=w.output
 size:w.heap.size≤w'.heap.size
 base:G'.base=G.base
 still:∀ b,b<w.heap.size→G.fr b=none→w'.heap[b]?=w.heap[b]?∧G'.fr b=none
 part:∀ b k o v,G.fr b=some k→o<k→w.cell? ⟨b,o,none⟩=some v→w'.cell? ⟨b,o,none⟩=some v∧(G'.fr b=none∨∃ k',G'.fr b=some k'∧o<k')
 ρ:∀ id b,G.ρ id=some b→G'.ρ id=some b
 cv:∀ id n v,G.cv id=some (n,v)→∃ n' v',G'.cv id=some (n',v')∧n≤n'∧(n'=n→v'=v)
 nx:h.nx≤h'.nx
 unm:∀ id,id<h.nx→G.ρ id=none→G.cv id=none→h'.t.get id=h.t.get id∧G'.ρ id=none∧G'.cv id=none
 own:∀ b,b<w.heap.size→G.ow b=none→w'.heap[b]?=w.heap[b]?∧G'.fr b=G.fr b∧G'.ow b=none
theorem Ext.refl (G:Gh) (w:World) (h:H):Ext G w h G w h:=
 ⟨rfl,rfl,rfl,Nat.le_refl _,rfl,fun _ _ h=>⟨rfl,h⟩,fun _ k _ _ h ho hv=>⟨hv,.inr ⟨k,h,ho⟩⟩,fun _ _ h=>h,fun _ n v h=>⟨n,v,h,Nat.le_refl _,fun _=>rfl⟩,Nat.le_refl _,fun _ _ a b=>⟨rfl,a,b⟩,fun _ _ h=>⟨rfl,rfl,h⟩⟩
theorem Stb.lt {G:Gh} {w:World} {b o:Nat} {v:Value} (h:Stb G w b o v):b<w.heap.size:=World.block_lt_of_cell? w ⟨b,o,none⟩ h.1
section
variable {G G' G'':Gh} {w w' w'':World} {h h' h'':H}
theorem Stb.mono (E:Ext G w h G' w' h') {b o:Nat} {v:Value} (s:Stb G w b o v):Stb G' w' b o v:=by
 rcases s.2 with hf|⟨k,hf,ho⟩
 ·obtain⟨h1,h2⟩:=E.still b s.lt hf
  exact⟨(World.cell?_of_block (w:=w) (a:=⟨b,o,none⟩) h1).trans s.1,.inl h2⟩
 ·exact E.part b k o v hf ho s.1
theorem Kept.mono (E:Ext G w h G' w' h') (K:Kept G w):Kept G' w':=fun p hp=>by
 obtain⟨h1,h2,h3⟩:=K p hp
 obtain⟨h4,h5⟩:=E.still p.1 h2 h3
 exact⟨by rw[h4];exact h1,Nat.lt_of_lt_of_le h2 E.size,h5⟩
theorem Ext.trans (E:Ext G w h G' w' h') (F:Ext G' w' h' G'' w'' h''):Ext G w h G'' w'' h'' where
 os:=F.os.trans E.os
 tape:=F.tape.trans E.tape
 output:=F.output.trans E.output
 size:=Nat.le_trans E.size F.size
 base:=F.base.trans E.base
 still:=fun b hb hf=>by
  obtain⟨h1,h2⟩:=E.still b hb hf
  obtain⟨h3,h4⟩:=F.still b (Nat.lt_of_lt_of_le hb E.size) h2
  exact⟨h3.trans h1,h4⟩
 part:=fun b k o v hf ho hv=>by
  have hs:Stb G w b o v:=⟨hv,.inr ⟨k,hf,ho⟩⟩
  have h2:=(hs.mono E).mono F
  exact⟨h2.1,h2.2⟩
 ρ:=fun id b hr=>F.ρ id b (E.ρ id b hr)
 cv:=fun id n v hc=>by
  obtain⟨n1,v1,h1,h2,h3⟩:=E.cv id n v hc
  obtain⟨n2,v2,h4,h5,h6⟩:=F.cv id n1 v1 h1
  refine⟨n2,v2,h4,Nat.le_trans h2 h5,fun e => ?_⟩
  have e1:n1=n:=by omega
  have e2:n2=n1:=by omega
  rw[h6 e2,h3 e1]
 nx:=Nat.le_trans E.nx F.nx
 unm:=fun id hi hr hc=>by
  obtain⟨h1,h2,h3⟩:=E.unm id hi hr hc
  obtain⟨h4,h5,h6⟩:=F.unm id (Nat.lt_of_lt_of_le hi E.nx) h2 h3
  exact⟨h4.trans h1,h5,h6⟩
 own:=fun b hb ho=>by
  obtain⟨h1,h2,h3⟩:=E.own b hb ho
  obtain⟨h4,h5,h6⟩:=F.own b (Nat.lt_of_lt_of_le hb E.size) h3
  exact⟨h4.trans h1,h5.trans h2,h6⟩
theorem OwnR.mono (E:Ext G w h G' w' h') {o:Own} {v:Value} {len cap:Nat} (r:OwnR G o v len cap):OwnR G' o v len cap:=by
 cases o with
 | no=>trivial
 | full=>exact r
 | ch id=>
  obtain⟨n,v',h1,h2,h3⟩:=r
  obtain⟨n1,v1,h4,h5,h6⟩:=E.cv id n v' h1
  refine⟨n1,v1,h4,Nat.le_trans h2 h5,fun e => ?_⟩
  have e1:n1=n:=by omega
  rw[h6 e1,h3 (by omega)]
theorem RowR.mono (E:Ext G w h G' w' h') {id len b:Nat} {p:Nat→Prop} (r:RowR G id len b p):RowR G' id len b p:=by
 obtain⟨n,v',h1,h2,h3⟩:=r
 obtain⟨n1,v1,h4,h5,h6⟩:=E.cv id n v' h1
 refine⟨n1,v1,h4,Nat.le_trans h2 h5,fun e => ?_⟩
 have e1:n1=n:=by omega
 rw[h6 e1]
 exact h3 (by omega)
theorem VR.mono (E:Ext G w h G' w' h') {v:Value} {x:AV} (r:VR G w v x):VR G' w' v x:=by
 induction r with
 | bool b=>exact .bool b
 | int k n=>exact .int k n
 | str s=>exact .str s
 | ptr0=>exact .ptr0
 | ptr id b off h=>exact .ptr id b off (E.ρ _ _ h)
 | vp b off cs f h1 h2 ih=>exact .vp b off cs f (fun j hj=>(h1 j hj).mono E) ih
 | sl0 A cap o hn h=>exact .sl0 A cap o hn (h.mono E)
 | sl b off len cap s o els f hl hc hs h1 h2 ho ih=>exact .sl b off len cap s o els f hl hc hs (fun i j hi hj=>(h1 i j hi hj).mono E) ih (ho.mono E)
 | map0=>exact .map0
 | map id b h=>exact .map id b (E.ρ _ _ h)
 | fn f a b c d ha hb h1 h2 i1 i2=>exact .fn f a b c d ha hb i1 i2
 | nilFn=>exact .nilFn
 | iface t v x h ih=>exact .iface t v x ih
 | nilIface=>exact .nilIface
 | agg a c ha h1 ih=>exact .agg a c ha ih
 | tup a c ha h1 ih=>exact .tup a c ha ih
 | rs id len b cap own hc h=>exact .rs id len b cap own hc (h.mono E)
 | rp id len off b h=>exact .rp id len off b (h.mono E)
 | rv id len k b cap hk hc h=>exact .rv id len k b cap hk hc (h.mono E)
theorem VRs.mono (E:Ext G w h G' w' h') {a:List Value} {c:List AV} (r:VRs G w a c):VRs G' w' a c:=⟨r.1,fun i v x h1 h2=>(r.2 i v x h1 h2).mono E⟩
theorem ChR.mono (E:Ext G w h G' w' h') {o:Option Obj} {n e size k:Nat} {xs:List Value} (r:ChR G w o n e size k xs):ChR G' w' o n e size k xs:=
 r.imp (fun x=>x) fun ⟨cs,h1,h2,h3⟩=>⟨cs,h1,h2,h3.mono E⟩
theorem ChR.no_obj {o:Option Obj} {n e size k:Nat} {xs:List Value} {p:Option Go.Obj} (r:ChR G w o n e size k xs) (q:ObjR G' w' o p):False:=by
 rcases r with ⟨rfl,_⟩|⟨cs,rfl,_⟩
 ·exact q.elim
 ·exact q.elim
theorem ObjR.mono (E:Ext G w h G' w' h') {o:Option Obj} {p:Option Go.Obj} (r:ObjR G w o p):ObjR G' w' o p:=by
 match o,p,r with
 | some (.cells cs),some (.cells c _ fz),r=>exact⟨r.1,r.2.mono E⟩
 | some (.map es),some (.map ents _),r=>exact⟨r.1,fun i e k x h1 h2=>⟨(r.2 i e k x h1 h2).1.mono E,(r.2 i e k x h1 h2).2.mono E⟩⟩
end
theorem VRs.nil (G:Gh) (w:World):VRs G w [] []:=⟨rfl,fun i v x h=>by simp at h⟩
theorem VRs.cons {G:Gh} {w:World} {v:Value} {x:AV} {a:List Value} {c:List AV} (h:VR G w v x) (r:VRs G w a c):VRs G w (v::a) (x::c):=by
 refine⟨by simp[r.1],fun i u y hu hy => ?_⟩
 cases i with
 | zero=>simp at hu hy;subst hu;subst hy;exact h
 | succ i=>simp at hu hy;exact r.2 i u y hu hy
theorem VRs.uncons {G:Gh} {w:World} {a:List Value} {x:AV} {c:List AV} (r:VRs G w a (x::c)):∃ v b,a=v::b∧VR G w v x∧VRs G w b c:=by
 cases a with
 | nil=>have:=r.1;simp at this
 | cons v b=>exact⟨v,b,rfl,r.2 0 v x rfl rfl,by have:=r.1;simpa using this,fun i u y hu hy=>r.2 (i+1) u y (by simpa using hu) (by simpa using hy)⟩
theorem VRs.append {G:Gh} {w:World} {a b:List Value} {c d:List AV} (h:VRs G w a c) (k:VRs G w b d):VRs G w (a++b) (c++d):=by
 refine⟨by simp[h.1,k.1],fun i u y hu hy => ?_⟩
 rcases Nat.lt_or_ge i a.length with hi|hi
 ·rw[List.getElem?_append_left hi]at hu
  rw[List.getElem?_append_left (by rw[←h.1];exact hi)]at hy
  exact h.2 i u y hu hy
 ·rw[List.getElem?_append_right hi]at hu
  rw[List.getElem?_append_right (by rw[←h.1];exact hi),←h.1]at hy
  exact k.2 _ u y hu hy
theorem VR.cells {G:Gh} {w:World} {v:Value} {x:AV} (r:VR G w v x):VRs G w v.cells.toList x.cells:=by
 have one:∀ {u:Value} {y:AV},VR G w u y→VRs G w [u] [y]:=fun h => .cons h (.nil G w)
 cases r with
 | agg a c ha h1=>exact⟨by simpa[Value.cells,AV.cells]using ha,fun i v x hv hx=>h1 i v x (by simpa[Value.cells]using hv) hx⟩
 | _=>exact one (by first|assumption|constructor<;>assumption)
theorem VR.one {G:Gh} {w:World} {v:Value} {x:AV} (r:VR G w v x) (h:x.one=true):v.oneCell'=true:=by
 cases r<;>simp_all[AV.one,Value.oneCell']
end Go.Ev
namespace Go.Ev
variable [MT]
structure PE where
 i:Nat
 eff:Bool
 chk:List Nat
inductive Alt where
 | leaf (pl:List PE)
 | split (a b:Nat) (l r:Alt)
structure Env where
 ty:Nat→Option TyI
 fns:Nat→Option Func
 plan:Nat→Nat→Option (List PE)
 prim:Nat→Option (List AV→H→Option (AV × H))
 alt:Nat→Nat→Option Alt:=fun _ _=>none
abbrev fO:=Nat→List AV→H→Option (AV × H)
def aG (ops:Array Oper) (tm:Tm) (o:Oper):Option Bool:=
 match o.guard with
 | none=>some true
 | some (j,want)=>match (ops[j]?).bind (·.dst)with
  | none=>some false
  | some d=>match tm.get d with
   | some (.bool b)=>some (b==want)
   | some (.tup _)=>some false
   | _=>none
def aZ (n:Nat) (dst:Option Nat) (v:AV) (tm:Tm):Option Tm:=
 match dst with
 | none=>some tm
 | some d=>bif Nat.blt d n then some (tm.set d v)else none
def bA (call:fO) (ty:Nat→Option TyI) (tm:Tm) (h:H) (o:Op):Option (AV × H):=
 match o with
 | .call { callee := .value f,args,argTypes:=_ }=>match val tm f,aH tm args.toList with
  | some (.fn g first cap),some vs=>call g (first++vs++cap) h
  | _,_=>none
 | o=>bT ty tm h o
def aX (call:fO) (ty:Nat→Option TyI) (n:Nat) (ops:Array Oper) (o:Oper) (tm:Tm) (h:H):Option (Tm × H):=
 match aG ops tm o with
 | none=>none
 | some false=>match aZ n o.dst (.tup []) tm with
  | none=>none
  | some tm'=>some (tm',h)
 | some true=>match bA call ty tm h o.op with
  | none=>none
  | some (v,h')=>match aZ n o.dst v tm with
   | none=>none
   | some tm'=>some (tm',h')
def bC (call:fO) (ty:Nat→Option TyI) (n:Nat) (ops:Array Oper):List Oper→Tm→H→Option (Tm × H)
 | [],tm,h=>some (tm,h)
 | o::r,tm,h=>match aX call ty n ops o tm h with
  | none=>none
  | some (tm',h')=>bC call ty n ops r tm' h'
def recheck (ty:Nat→Option TyI) (ops:Array Oper) (tm:Tm) (h:H):List Nat→Bool
 | []=>true
 | j::l=>(match ops[j]? with
  | none=>false
  | some o=>match aG ops tm o with
   | none=>false
   | some false=>true
   | some true=>match o.dst with
    | none=>false
    | some d=>match bT ty tm h o.op,tm.get d with
     | some (v,_),some u=>AV.beq v u
     | _,_=>false)&&recheck ty ops tm h l
def bI (call:fO) (ty:Nat→Option TyI) (n:Nat) (ops:Array Oper):List PE→Tm→H→Option (Tm × H)
 | [],tm,h=>some (tm,h)
 | p::r,tm,h=>match ops[p.i]? with
  | none=>none
  | some o=>match aX call ty n ops o tm h with
   | none=>none
   | some (tm',h')=>bif recheck ty ops tm' h' p.chk then bI call ty n ops r tm' h' else none
def addEdge (ops:Array Oper) (b a:Nat):Array Oper:=ops.modify b fun o=>{ o with after:=o.after.push ⟨a,.data⟩ }
def T.same {α:Type} (f:α→α→Bool):T α→T α→Bool
 | .e,.e=>true
 | .n a l r,.n b m s=>(match a,b with|none,none=>true|some x,some y=>f x y|_,_=>false)&&(T.same f l m&&T.same f r s)
 | _,_=>false
def pairsSame:List (AV × AV)→List (AV × AV)→Bool
 | [],[]=>true
 | (a,b)::l,(c,d)::m=>AV.beq a c&&(AV.beq b d&&pairsSame l m)
 | _,_=>false
def objSame:Obj→Obj→Bool
 | .cells a,.cells b=>AV.beqs a b
 | .map a,.map b=>pairsSame a b
 | .chain a b c,.chain d e f=>Nat.beq a d&&(Nat.beq b e&&Nat.beq c f)
 | .row a b c x,.row d e f y=>Nat.beq a d&&(Nat.beq b e&&(Nat.beq c f&&AV.beqs x y))
 | _,_=>false
def stSame (x y:Tm × H):Bool:=T.same AV.beq x.1 y.1&&(T.same objSame x.2.t y.2.t&&Nat.beq x.2.nx y.2.nx)
def evAlt (call:fO) (ty:Nat→Option TyI) (n:Nat):Array Oper→Alt→Tm→H→Option (Tm × H)
 | ops,.leaf pl,tm,h=>bI call ty n ops pl tm h
 | ops,.split a b l r,tm,h=>match evAlt call ty n (addEdge ops b a) l tm h,evAlt call ty n (addEdge ops a b) r tm h with
  | some x,some y=>bif stSame x y then some x else none
  | _,_=>none
inductive Ex where
 | normal
 | exit (id:Nat)
 | ret
def aJ (call:fO) (E:Env) (f n:Nat):Nat→Code→Tm→H→Option (Ex × Tm × H)
 | 0,_,_,_=>none
 | k+1,c,tm,h=>match c with
  | .skip=>some (.normal,tm,h)
  | .label _=>some (.normal,tm,h)
  | .region _ ops false=>match bC call E.ty n ops ops.toList tm h with
   | none=>none
   | some (tm',h')=>some (.normal,tm',h')
  | .region id ops true=>match E.plan f id with
   | none=>match E.alt f id with
    | none=>none
    | some al=>match evAlt call E.ty n ops al tm h with
     | none=>none
     | some (tm',h')=>some (.normal,tm',h')
   | some pl=>match bI call E.ty n ops pl tm h with
    | none=>none
    | some (tm',h')=>some (.normal,tm',h')
  | .seq a b=>match aJ call E f n k a tm h with
   | none=>none
   | some (.normal,tm',h')=>aJ call E f n k b tm' h'
   | some r=>some r
  | .cond c a b=>match val tm c with
   | some (.bool t)=>bif t then aJ call E f n k a tm h else aJ call E f n k b tm h
   | _=>none
  | .block id b=>match aJ call E f n k b tm h with
   | none=>none
   | some (.exit j,tm',h')=>some (bif Nat.beq j id then .normal else .exit j,tm',h')
   | some r=>some r
  | .loop b=>match aJ call E f n k b tm h with
   | none=>none
   | some (.normal,tm',h')=>aJ call E f n k (.loop b) tm' h'
   | some r=>some r
  | .exit id=>some (.exit id,tm,h)
  | .ret=>some (.ret,tm,h)
  | _=>none
def setArgs:Nat→List AV→Tm→Tm
 | _,[],tm=>tm
 | i,v::l,tm=>setArgs (i+1) l (tm.set i v)
def bQ (ty:Nat→Option TyI) (tm:Tm) (h:H):List ResultVar→Option (List AV)
 | []=>some []
 | .tmp t::l=>match tm.get t,bQ ty tm h l with
  | some v,some m=>some (v::m)
  | _,_=>none
 | .cell a t::l=>match bT ty tm h (.load t (.tmp a)),bQ ty tm h l with
  | some (v,_),some m=>some (v::m)
  | _,_=>none
def bS:List AV→AV
 | [v]=>v
 | l => .tup l
def cG (E:Env):Nat→fO
 | 0,_,_,_=>none
 | k+1,f,args,h=>match E.prim f with
  | some p=>p args h
  | none=>match E.fns f with
   | none=>none
   | some fn=>match fn.body with
    | none=>none
    | some c=>bif Nat.ble args.length fn.ntmps then
      match aJ (cG E k) E f fn.ntmps k c (setArgs 0 args .e) h with
      | some (.normal,tm,h')=>match bQ E.ty tm h' fn.results.toList with
       | some l=>some (bS l,h')
       | none=>none
      | some (.ret,tm,h')=>match bQ E.ty tm h' fn.results.toList with
       | some l=>some (bS l,h')
       | none=>none
      | _=>none
     else none
end Go.Ev
namespace Go.Ev
variable [Inhabited KA0] [MT]
def TyOk (P:Program) (ty:Nat→Option TyI):Prop:=∀ t i,ty t=some i→tyOf P t=some i
theorem bM {P:Program} {t:Nat} {i:TyI} (h:tyOf P t=some i) :
  ∃ inf d,P.info? t=some inf∧P.underlying t=some d∧i.kind=kindOf P d∧i.sz=inf.size∧i.byt=inf.bytes∧i.zero=inf.zero.bind bJ∧i.ag=isAggD d:=by
 unfold tyOf at h
 split at h
 ·rename_i inf d h1 h2
  simp only[Option.some.injEq]at h
  subst h
  exact⟨inf,d,h1,h2,rfl,rfl,rfl,rfl,rfl⟩
 ·simp at h
theorem tyOf_eqf {P:Program} {t:Nat} {i:TyI} (h:tyOf P t=some i):i.eqf=eqFlat P t:=by
 unfold tyOf at h
 split at h
 ·simp only[Option.some.injEq]at h
  subst h
  rfl
 ·simp at h
theorem all0_some {α β:Type} {f:α→Option β}:∀ {l:List α} {m:List β},all0 f l=some m→m.length=l.length∧∀ (i:Nat) y,m[i]?=some y→∃ x,l[i]?=some x∧f x=some y
 | [],m,h=>by simp[all0]at h;subst h;exact⟨rfl,fun i y hy=>by simp at hy⟩
 | a::l,m,h=>by
  simp only[all0]at h
  split at h
  ·simp at h
  ·rename_i b hb
   split at h
   ·simp at h
   ·rename_i m' hm
    simp only[Option.some.injEq]at h
    subst h
    obtain⟨h1,h2⟩:=all0_some hm
    refine⟨by simp[h1],fun i y hy => ?_⟩
    cases i with
    | zero=>simp at hy;subst hy;exact⟨a,rfl,hb⟩
    | succ i=>simp at hy;obtain⟨x,hx,hf⟩:=h2 i y hy;exact⟨x,by simpa using hx,hf⟩
theorem kind_struct {P:Program} {d:TypeDesc} {fs:List (Nat × Nat × Bool)} (h:TK.st fs=kindOf P d):∃ f,d = .struct f∧all0 (fieldOf P) f.toList=some fs:=by
 unfold kindOf at h
 split at h
 ·rename_i f
  split at h
  ·rename_i l hl
   simp only[TK.st.injEq]at h
   subst h
   exact⟨f,rfl,hl⟩
  ·simp at h
 all_goals simp at h
theorem dP {P:Program} {d:TypeDesc} {e:Nat} (h:TK.sl e=kindOf P d):d = .slice e:=by
 unfold kindOf at h
 split at h
 ·split at h<;>simp at h
 all_goals simp_all
theorem kind_map {P:Program} {d:TypeDesc} {k e:Nat} (h:TK.mp k e=kindOf P d):d = .map k e:=by
 unfold kindOf at h
 split at h
 ·split at h<;>simp at h
 all_goals simp_all
theorem kind_str {P:Program} {d:TypeDesc} (h:TK.str=kindOf P d):d = .string:=by
 unfold kindOf at h
 split at h
 ·split at h<;>simp at h
 all_goals simp_all
theorem kind_int {P:Program} {d:TypeDesc} {k:IntKind} (h:TK.int k=kindOf P d):d = .int k:=by
 unfold kindOf at h
 split at h
 ·split at h<;>simp at h
 all_goals simp_all
theorem kind_bool {P:Program} {d:TypeDesc} (h:TK.bool=kindOf P d):d = .bool:=by
 unfold kindOf at h
 split at h
 ·split at h<;>simp at h
 all_goals simp_all
theorem kind_ptr {P:Program} {d:TypeDesc} {e:Nat} (h:TK.ptr e=kindOf P d):d = .pointer e:=by
 unfold kindOf at h
 split at h
 ·split at h<;>simp at h
 all_goals simp_all
theorem kind_iface {P:Program} {d:TypeDesc} (h:TK.iface=kindOf P d):∃ m,d = .interface m:=by
 unfold kindOf at h
 split at h
 ·split at h<;>simp at h
 all_goals simp_all
theorem ofVal0_VR (G:Gh) (w:World) {v:Value} {x:AV} (h:aR v=some x):VR G w v x:=by
 unfold aR at h
 split at h
 all_goals first|(simp only[Option.some.injEq]at h;subst h)|(simp at h;done)
 ·exact .bool _
 ·exact .int _ _
 ·exact .str _
 ·exact .ptr0
 ·exact .sl0 none 0 _ (fun _=>rfl) rfl
 ·exact .map0
 ·exact .nilFn
 ·exact .nilIface
theorem ofVal_VR (G:Gh) (w:World) {v:Value} {x:AV} (h:bJ v=some x):VR G w v x:=by
 have arr:∀ {cs:Array Value} {l:List AV},all0 aR cs.toList=some l→cs.size=l.length∧∀ (i:Nat) u y,cs[i]?=some u→l[i]?=some y→VR G w u y:=by
  intro cs l hl
  obtain⟨h1,h2⟩:=all0_some hl
  refine⟨by simpa using h1.symm,fun i u y hu hy => ?_⟩
  obtain⟨u',hu',hf⟩:=h2 i y hy
  have:u'=u:=by simp at hu';rw[hu]at hu';exact(Option.some.inj hu').symm
  subst this
  exact ofVal0_VR G w hf
 unfold bJ at h
 split at h
 ·obtain⟨l,hl,rfl⟩:=Option.map_eq_some_iff.1 h
  obtain⟨a,b⟩:=arr hl
  exact .agg _ _ a b
 ·obtain⟨l,hl,rfl⟩:=Option.map_eq_some_iff.1 h
  obtain⟨a,b⟩:=arr hl
  exact .tup _ _ a b
 ·exact ofVal0_VR G w h
def Gh.add (G:Gh) (id b:Nat):Gh:=
 { G with ρ:=fun i=>if i=id then some b else G.ρ i,fr:=fun c=>if c=b then some 0 else G.fr c,ow:=fun c=>if c=b then some id else G.ow c }
section
variable {P:Program} {G:Gh} {w:World} {h:H}
theorem Inv.fresh (I:Inv G w h):G.ρ h.nx=none∧G.cv h.nx=none∧G.fr w.heap.size=none:=by
 refine⟨?_,?_,?_⟩
 ·cases hr:G.ρ h.nx with
  | none=>rfl
  | some b=>have:=(I.obj _ _ hr).1;omega
 ·cases hr:G.cv h.nx with
  | none=>rfl
  | some p=>obtain⟨n,v⟩:=p;have:=(I.chn _ _ _ hr).1;omega
 ·cases hr:G.fr w.heap.size with
  | none=>rfl
  | some k=>have:=(I.frb _ _ hr).2;omega
theorem alloc_ext (I:Inv G w h) (o:Go.Obj):Ext G w h G (w.alloc o) h where
 os:=rfl
 tape:=rfl
 output:=rfl
 size:=by simp
 base:=rfl
 still:=fun b hb hf=>⟨heap_alloc_old w o b hb,hf⟩
 part:=fun b k q v hf ho hv=>⟨(World.cell?_alloc_lt w o ⟨b,q,none⟩ (World.block_lt_of_cell? w ⟨b,q,none⟩ hv)).trans hv,.inr ⟨k,hf,ho⟩⟩
 ρ:=fun _ _ h=>h
 cv:=fun _ n v h=>⟨n,v,h,Nat.le_refl _,fun _=>rfl⟩
 nx:=Nat.le_refl _
 unm:=fun _ _ a b=>⟨rfl,a,b⟩
 own:=fun b hb ho=>⟨heap_alloc_old w o b hb,rfl,ho⟩
theorem alloc_inv (I:Inv G w h) (o:Go.Obj):Inv G (w.alloc o) h where
 wf:=I.wf
 frb:=fun b k hf=>⟨(I.frb b k hf).1,by have:=(I.frb b k hf).2;simp;omega⟩
 bas:=by have:=I.bas;simp;omega
 obj:=fun id b hr=>by
  obtain⟨h1,h2,h3,h4⟩:=I.obj id b hr
  refine⟨h1,h2,h3,?_⟩
  rw[heap_alloc_old w o b (I.frb b 0 h2).2]
  exact h4.mono (alloc_ext I o)
 chn:=fun id n v hc=>by
  obtain⟨h1,g,e,size,xs,cap,k,h2,h3,h4,h5,h6⟩:=I.chn id n v hc
  exact⟨h1,g,e,size,xs,cap,k,h2.mono (alloc_ext I o),h3,h4.alloc o,h5,h6⟩
 ka:=I.ka.mono (alloc_ext I o)
theorem drew_ext (G:Gh) (w:World) (h:H):Ext G w h G w.drew h:=
 ⟨rfl,rfl,rfl,Nat.le_refl _,rfl,fun _ _ h=>⟨rfl,h⟩,fun _ k _ _ h ho hv=>⟨hv,.inr ⟨k,h,ho⟩⟩,fun _ _ h=>h,fun _ n v h=>⟨n,v,h,Nat.le_refl _,fun _=>rfl⟩,Nat.le_refl _,fun _ _ a b=>⟨rfl,a,b⟩,fun _ _ h=>⟨rfl,rfl,h⟩⟩
theorem drew_inv (I:Inv G w h):Inv G w.drew h where
 wf:=I.wf
 frb:=I.frb
 bas:=I.bas
 obj:=fun id b hr=>by
  obtain⟨h1,h2,h3,h4⟩:=I.obj id b hr
  exact⟨h1,h2,h3,h4.mono (drew_ext G w h)⟩
 chn:=fun id n v hc=>by
  obtain⟨h1,g,e,size,xs,cap,k,h2,h3,h4,h5,h6⟩:=I.chn id n v hc
  exact⟨h1,g,e,size,xs,cap,k,h2.mono (drew_ext G w h),h3,h4,h5,h6⟩
 ka:=I.ka
theorem new_inv (I:Inv G w h) (o:Obj):Inv G w (h.new o) where
 wf:=fun id p hp=>by
  by_cases hi:id=h.nx
  ·subst hi;show h.nx<h.nx+1;omega
  ·have:h.t.get id=some p:=by rw[←hp];exact(T.aD _ _ hi).symm
   have:=I.wf _ _ this
   show id<h.nx+1;omega
 frb:=I.frb
 bas:=I.bas
 obj:=fun id b hr=>by
  obtain⟨h1,h2,h3,h4⟩:=I.obj id b hr
  have e:(h.new o).t.get id=h.t.get id:=T.aD _ _ (by omega)
  exact⟨by show id<h.nx+1;omega,h2,h3,by rw[e];exact h4⟩
 chn:=fun id n v hc=>by
  obtain⟨h1,g,e',size,xs,cap,k,h2,r⟩:=I.chn id n v hc
  have e:(h.new o).t.get id=h.t.get id:=T.aD _ _ (by omega)
  exact⟨by show id<h.nx+1;omega,g,e',size,xs,cap,k,by rw[e];exact h2,r⟩
 ka:=I.ka
theorem add_ext (I:Inv G w h) (id:Nat) (hi:id<h.nx) (hr:G.ρ id=none) (hc:G.cv id=none) (p:Go.Obj) (h0:H) (h0n:h0.nx≤h.nx)
  (hm:∀ j,j<h0.nx→G.ρ j=none→G.cv j=none→j≠id) (hs:∀ j,j<h0.nx→h.t.get j=h0.t.get j):Ext G w h0 (G.add id w.heap.size) (w.alloc p) h where
 os:=rfl
 tape:=rfl
 output:=rfl
 size:=by simp
 base:=rfl
 still:=fun b hb hf=>⟨heap_alloc_old w p b hb,by simp only[Gh.add];rw[if_neg (by omega)];exact hf⟩
 part:=fun b k q v hf ho hv=>by
  have hb:=World.block_lt_of_cell? w ⟨b,q,none⟩ hv
  refine⟨(World.cell?_alloc_lt w p ⟨b,q,none⟩ hb).trans hv,.inr ⟨k,?_,ho⟩⟩
  simp only[Gh.add];rw[if_neg (by simp at hb;omega)];exact hf
 ρ:=fun j b hj=>by
  simp only[Gh.add]
  split
  ·rename_i e;subst e;rw[hr]at hj;cases hj
  ·exact hj
 cv:=fun _ n v h=>⟨n,v,h,Nat.le_refl _,fun _=>rfl⟩
 nx:=h0n
 unm:=fun j hj a b=>⟨hs j hj,by simp only[Gh.add];rw[if_neg (hm j hj a b)];exact a,b⟩
 own:=fun b hb ho=>⟨heap_alloc_old w p b hb,by simp only[Gh.add];rw[if_neg (by omega)],by simp only[Gh.add];rw[if_neg (by omega)];exact ho⟩
theorem add_inv (I:Inv G w h) (id:Nat) (hi:id<h.nx) (hr:G.ρ id=none) (hc:G.cv id=none) (p:Go.Obj) (ho:ObjR G w (h.t.get id) (some p)) :
  Inv (G.add id w.heap.size) (w.alloc p) h:=by
 have E:Ext G w ⟨h.t,0⟩ (G.add id w.heap.size) (w.alloc p) h:=add_ext I id hi hr hc p ⟨h.t,0⟩ (Nat.zero_le _) (fun j hj=>absurd hj (by simp)) (fun j _=>rfl)
 refine⟨I.wf,?_,by have:=I.bas;simp[Gh.add];omega,?_,?_,I.ka.mono E⟩
 ·intro b k hf
  simp only[Gh.add]at hf ⊢
  split at hf
  ·rename_i e;subst e;exact⟨I.bas,by simp⟩
  ·have:=I.frb b k hf;exact⟨this.1,by simp;omega⟩
 ·intro j b hj
  simp only[Gh.add]at hj
  split at hj
  ·rename_i e
   simp only[Option.some.injEq]at hj
   subst e;subst hj
   refine⟨hi,by simp[Gh.add],by simp[Gh.add],?_⟩
   rw[heap_alloc_new]
   exact ho.mono E
  ·obtain⟨h1,h2,h3,h4⟩:=I.obj j b hj
   have hb:b<w.heap.size:=(I.frb b 0 h2).2
   refine⟨h1,by simp only[Gh.add];rw[if_neg (by omega)];exact h2,by simp only[Gh.add];rw[if_neg (by omega)];exact h3,?_⟩
   rw[heap_alloc_old w p b hb]
   exact h4.mono E
 ·intro j n v hc'
  obtain⟨h1,g,e,size,xs,cap,k,h2,h3,h4,h5,h6,h7⟩:=I.chn j n v hc'
  have hb:g<w.heap.size:=(I.frb g _ h5).2
  exact⟨h1,g,e,size,xs,cap,k,h2.mono E,h3,h4.alloc p,by simp only[Gh.add];rw[if_neg (by omega)];exact h5,by simp only[Gh.add];rw[if_neg (by omega)];exact h6,h7⟩
structure AddR (G:Gh) (w:World) (h:H) (id:Nat) (G':Gh) (w':World):Prop where
 inv:Inv G' w' h
 ext:∀ h0:H,h0.nx≤h.nx→(∀ j,j<h0.nx→G.ρ j=none→G.cv j=none→j≠id)→(∀ j,j<h0.nx→h.t.get j=h0.t.get j)→Ext G w h0 G' w' h
 ρ:∀ j,j≠id→G'.ρ j=G.ρ j
 cv:∀ j,j≠id→G'.cv j=G.cv j
theorem add_R (I:Inv G w h) (id:Nat) (hi:id<h.nx) (hr:G.ρ id=none) (hc:G.cv id=none) (p:Go.Obj) (ho:ObjR G w (h.t.get id) (some p)):AddR G w h id (G.add id w.heap.size) (w.alloc p) where
 inv:=add_inv I id hi hr hc p ho
 ext:=fun h0 a b c=>add_ext I id hi hr hc p h0 a b c
 ρ:=fun j hj=>by simp only[Gh.add];rw[if_neg hj]
 cv:=fun _ _=>rfl
def Gh.addRow (G:Gh) (id n:Nat) (V:Value) (b:Nat):Gh:=
 { G with cv:=fun i=>if i=id then some (n,V)else G.cv i,fr:=fun c=>if c=b then some 0 else G.fr c,ow:=fun c=>if c=b then some id else G.ow c }
theorem addRow_R (I:Inv G w h) (id:Nat) (hi:id<h.nx) (hr:G.ρ id=none) (hc:G.cv id=none) {n e s cap:Nat} {C:Array Value} {cs:List AV} (hg:h.t.get id=some (.row n e s cs)) (hs:0<s) (hn:n≤cap) (hm:cap≤maxLen) (hC:C.size=cap*s)
  (hv:VRs G w (C.toList.take (n*s)) cs):AddR G w h id (G.addRow id n (.slice (some ⟨w.heap.size,0,none⟩) n cap) w.heap.size) (w.alloc (.cells C e)):=by
 have ext:∀ h0:H,h0.nx≤h.nx→(∀ j,j<h0.nx→G.ρ j=none→G.cv j=none→j≠id)→(∀ j,j<h0.nx→h.t.get j=h0.t.get j)→Ext G w h0 (G.addRow id n (.slice (some ⟨w.heap.size,0,none⟩) n cap) w.heap.size) (w.alloc (.cells C e)) h:=fun h0 h0n hmm hss=>{
  os:=rfl
  tape:=rfl
  output:=rfl
  size:=by simp
  base:=rfl
  still:=fun b hb hf=>⟨heap_alloc_old w _ b hb,by simp only[Gh.addRow];rw[if_neg (by omega)];exact hf⟩
  part:=fun b k q v hf ho hv=>by
   have hb:=World.block_lt_of_cell? w ⟨b,q,none⟩ hv
   refine⟨(World.cell?_alloc_lt w _ ⟨b,q,none⟩ hb).trans hv,.inr ⟨k,?_,ho⟩⟩
   simp only[Gh.addRow];rw[if_neg (by simp at hb;omega)];exact hf
  ρ:=fun _ _ h=>h
  cv:=fun j m v hj=>by
   simp only[Gh.addRow]
   have hne:j≠id:=by rintro rfl;rw[hc]at hj;cases hj
   rw[if_neg hne]
   exact⟨m,v,hj,Nat.le_refl _,fun _=>rfl⟩
  nx:=h0n
  unm:=fun j hj a b=>⟨hss j hj,a,by simp only[Gh.addRow];rw[if_neg (hmm j hj a b)];exact b⟩
  own:=fun b hb ho=>⟨heap_alloc_old w _ b hb,by simp only[Gh.addRow];rw[if_neg (by omega)],by simp only[Gh.addRow];rw[if_neg (by omega)];exact ho⟩ }
 have E:=ext ⟨h.t,0⟩ (Nat.zero_le _) (fun j hj=>absurd hj (by simp)) (fun j _=>rfl)
 refine⟨⟨I.wf,?_,by have:=I.bas;simp[Gh.addRow];omega,?_,?_,I.ka.mono E⟩,ext,fun _ _=>rfl,fun j hj=>by simp only[Gh.addRow];rw[if_neg hj]⟩
 ·intro b k hf
  simp only[Gh.addRow]at hf ⊢
  split at hf
  ·rename_i e;subst e;exact⟨I.bas,by simp⟩
  ·have:=I.frb b k hf;exact⟨this.1,by simp;omega⟩
 ·intro j b hj
  obtain⟨h1,h2,h3,h4⟩:=I.obj j b hj
  have hb:b<w.heap.size:=(I.frb b 0 h2).2
  refine⟨h1,by simp only[Gh.addRow];rw[if_neg (by omega)];exact h2,by simp only[Gh.addRow];rw[if_neg (by omega)];exact h3,?_⟩
  rw[heap_alloc_old w _ b hb]
  exact h4.mono E
 ·intro j m v hj
  simp only[Gh.addRow]at hj
  split at hj
  ·rename_i ej
   subst ej
   simp only[Option.some.injEq,Prod.mk.injEq]at hj
   obtain⟨rfl,rfl⟩:=hj
   refine⟨hi,w.heap.size,e,s,_,cap,0,.inr ⟨cs,hg,rfl,hv.mono E⟩,rfl,⟨?_,.inr ⟨w.heap.size,cap,C,rfl,I.bas,heap_alloc_new w _,hn,hm,hC,rfl⟩⟩,by simp[Gh.addRow],by simp[Gh.addRow],hs⟩
   have:=Nat.mul_le_mul_right s hn
   rw[List.length_take];simp;omega
  ·obtain⟨h1,g,e',size,xs,cap',k,h2,h3,h4,h5,h6,h7⟩:=I.chn j m v hj
   have hb:g<w.heap.size:=(I.frb g _ h5).2
   exact⟨h1,g,e',size,xs,cap',k,h2.mono E,h3,h4.alloc _,by simp only[Gh.addRow];rw[if_neg (by omega)];exact h5,by simp only[Gh.addRow];rw[if_neg (by omega)];exact h6,h7⟩
end
end Go.Ev
