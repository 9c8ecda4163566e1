/- Functions of plain values as primitives; types as trees. -/
import Derived.Test.YtogjplcnmibnlaaGreatDoorEwA
set_option autoImplicit false
set_option linter.unusedSectionVars false
set_option linter.unusedVariables false
set_option linter.unusedSimpArgs false
namespace Go.Ev
variable [MT]
class Enc (α:Type) where
 enc:α→AV
 inj:∀ {x:AV} {a b:α},x.wk 0 (enc a)→x.wk 0 (enc b)→a=b
 bare:∀ (n:Nat) (a:α),(enc a).wk n (enc a)
open Enc (enc)
instance:Enc Int where
 enc n := .int .i64 n
 inj:=by
  intro x a b h1 h2
  cases x with
  | ptr p=>cases p<;>simp[AV.wk]at h1
  | map p=>cases p<;>simp[AV.wk]at h1
  | int k m=>simp[AV.wk]at h1 h2;rw[h1.2,h2.2]
  | _=>simp[AV.wk]at h1
 bare:=fun n a=>by simp[AV.wk]
instance:Enc Bool where
 enc b := .bool b
 inj:=by
  intro x a b h1 h2
  cases x with
  | ptr p=>cases p<;>simp[AV.wk]at h1
  | map p=>cases p<;>simp[AV.wk]at h1
  | bool c=>simp[AV.wk]at h1 h2;rw[h1,h2]
  | _=>simp[AV.wk]at h1
 bare:=fun n a=>by simp[AV.wk]
structure Str where
 s:List Nat
instance:Enc Str where
 enc t := .str t.s
 inj:=by
  intro x a b h1 h2
  cases x with
  | ptr p=>cases p<;>simp[AV.wk]at h1
  | map p=>cases p<;>simp[AV.wk]at h1
  | str s=>
   simp[AV.wk]at h1 h2
   obtain⟨a⟩:=a
   obtain⟨b⟩:=b
   simp at h1 h2
   rw[h1,h2]
  | _=>simp[AV.wk]at h1
 bare:=fun n a=>by simp[AV.wk]
theorem wks_map_inj {α:Type} [Enc α]:∀ {els:List AV} {a b:List α},AV.wks 0 els (a.map enc)→AV.wks 0 els (b.map enc)→a=b
 | [],a,b,h1,h2=>by
  simp only[AV.wks,List.map_eq_nil_iff]at h1 h2
  rw[h1,h2]
 | x::els,a,b,h1,h2=>by
  simp only[AV.wks]at h1 h2
  obtain⟨y,k,e1,g1,g2⟩:=h1
  obtain⟨z,m,e2,g3,g4⟩:=h2
  cases a with
  | nil=>simp at e1
  | cons a0 a=>
   cases b with
   | nil=>simp at e2
   | cons b0 b=>
    simp only[List.map_cons,List.cons.injEq]at e1 e2
    obtain⟨rfl,rfl⟩:=e1
    obtain⟨rfl,rfl⟩:=e2
    rw[Enc.inj g1 g3,wks_map_inj g2 g4]
theorem wks_map_refl {α:Type} [Enc α] (n:Nat):∀ (l:List α),AV.wks n (l.map enc) (l.map enc)
 | []=>by simp[AV.wks]
 | a::l=>⟨_,_,rfl,Enc.bare n a,wks_map_refl n l⟩
instance {α:Type} [Enc α]:Enc (List α) where
 enc l := .sl .no (l.map enc)
 inj:=by
  intro x a b h1 h2
  cases x with
  | ptr p=>cases p<;>simp[AV.wk]at h1
  | map p=>cases p<;>simp[AV.wk]at h1
  | sl o els=>
   simp only[AV.wk]at h1 h2
   obtain⟨p,ds,e1,_,g1⟩:=h1
   obtain⟨q,es,e2,_,g2⟩:=h2
   simp only[AV.sl.injEq]at e1 e2
   rw[←e1.2]at g1
   rw[←e2.2]at g2
   exact wks_map_inj g1 g2
  | _=>simp[AV.wk]at h1
 bare:=fun n l=>by
  simp only[AV.wk]
  exact⟨.no,_,rfl,.inl rfl,wks_map_refl n l⟩
noncomputable def eA (R:List AV→AV→Prop):List AV→Option AV:=fun args=>by
 classical exact if h:∃ v,R args v then some h.choose else none
theorem fY {R:List AV→AV→Prop} {args:List AV} {v:AV} (h:eA R args=some v):R args v:=by
 unfold eA at h
 split at h
 ·rename_i he
  rw[←Option.some.inj h]
  exact he.choose_spec
 ·simp at h
theorem ofRel_of {R:List AV→AV→Prop} {args:List AV} {v:AV} (h:R args v) (hu:∀ u,R args u→u=v):eA R args=some v:=by
 unfold eA
 have he:∃ v,R args v:=⟨v,h⟩
 rw[dif_pos he,hu _ he.choose_spec]
section
variable {α β γ δ:Type} [Enc α] [Enc β] [Enc γ] [Enc δ]
def Rel1 (q:α→Prop) (F:α→δ) (args:List AV) (v:AV):Prop:=∃ a,AV.wks 0 args [enc a]∧q a∧v=enc (F a)
def Rel2 (q:α→β→Prop) (F:α→β→δ) (args:List AV) (v:AV):Prop:=∃ a b,AV.wks 0 args [enc a,enc b]∧q a b∧v=enc (F a b)
def Rel3 (q:α→β→γ→Prop) (F:α→β→γ→δ) (args:List AV) (v:AV):Prop:=∃ a b c,AV.wks 0 args [enc a,enc b,enc c]∧q a b c∧v=enc (F a b c)
theorem wks1 {n:Nat} {x y:AV}:AV.wks n [x] [y]↔x.wk n y:=by
 simp only[AV.wks]
 constructor
 ·rintro⟨b,k,e,h,rfl⟩
  simp only[List.cons.injEq]at e
  rw[e.1];exact h
 ·intro h;exact⟨y,[],rfl,h,rfl⟩
theorem cK {n:Nat} {x y:AV} {l m:List AV}:AV.wks n (x::l) (y::m)↔x.wk n y∧AV.wks n l m:=by
 simp only[AV.wks]
 constructor
 ·rintro⟨b,k,e,h1,h2⟩
  simp only[List.cons.injEq]at e
  rw[e.1,e.2];exact⟨h1,h2⟩
 ·rintro⟨h1,h2⟩;exact⟨y,m,rfl,h1,h2⟩
theorem wks_nil {n:Nat}:AV.wks n [] []:=by simp[AV.wks]
theorem wk_agg {n:Nat} {a b:List AV}:(AV.agg a).wk n (.agg b)↔AV.wks n a b:=by simp[AV.wk]
theorem wk_tup {n:Nat} {a b:List AV}:(AV.tup a).wk n (.tup b)↔AV.wks n a b:=by simp[AV.wk]
theorem wk_sl {n:Nat} {o p:Own} {a b:List AV}:(AV.sl o a).wk n (.sl p b)↔o.wk n p∧AV.wks n a b:=by
 simp only[AV.wk,AV.sl.injEq]
 constructor
 ·rintro⟨q,ds,⟨rfl,rfl⟩,h⟩;exact h
 ·intro h;exact⟨p,b,⟨rfl,rfl⟩,h⟩
theorem wk_int {n:Nat} {k:IntKind} {m:Int}:(AV.int k m).wk n (.int k m):=by simp[AV.wk]
theorem wk_str {n:Nat} {s:List Nat}:(AV.str s).wk n (.str s):=by simp[AV.wk]
theorem wk_bool {n:Nat} {b:Bool}:(AV.bool b).wk n (.bool b):=by simp[AV.wk]
theorem own_no {n:Nat} {o:Own}:o.wk n .no := .inl rfl
theorem rel1_of {q:α→Prop} {F:α→δ} {x:AV} {a:α} (hx:x.wk 0 (enc a)) (hq:q a):eA (Rel1 q F) [x]=some (enc (F a)):=
 ofRel_of ⟨a,wks1.2 hx,hq,rfl⟩ fun u ⟨b,h1,_,h2⟩=>by rw[h2,Enc.inj (wks1.1 h1) hx]
theorem rel2_of {q:α→β→Prop} {F:α→β→δ} {x y:AV} {a:α} {b:β} (hx:x.wk 0 (enc a)) (hy:y.wk 0 (enc b)) (hq:q a b):eA (Rel2 q F) [x,y]=some (enc (F a b)):=
 ofRel_of ⟨a,b,cK.2 ⟨hx,wks1.2 hy⟩,hq,rfl⟩ fun u ⟨a',b',h1,_,h2⟩=>by
  obtain⟨g1,g2⟩:=cK.1 h1
  rw[h2,Enc.inj g1 hx,Enc.inj (wks1.1 g2) hy]
theorem rel3_of {q:α→β→γ→Prop} {F:α→β→γ→δ} {x y z:AV} {a:α} {b:β} {c:γ} (hx:x.wk 0 (enc a)) (hy:y.wk 0 (enc b)) (hz:z.wk 0 (enc c)) (hq:q a b c):eA (Rel3 q F) [x,y,z]=some (enc (F a b c)):=
 ofRel_of ⟨a,b,c,cK.2 ⟨hx,cK.2 ⟨hy,wks1.2 hz⟩⟩,hq,rfl⟩ fun u ⟨a',b',c',h1,_,h2⟩=>by
  obtain⟨g1,g2⟩:=cK.1 h1
  obtain⟨g3,g4⟩:=cK.1 g2
  rw[h2,Enc.inj g1 hx,Enc.inj g3 hy,Enc.inj (wks1.1 g4) hz]
variable [Inhabited KA0] {P:Program} {E:Env}
theorem prim1_ok (hE:dW P E) {f:Nat} {fn:Func} {c:Code} (hf:E.fns f=some fn) (hb:fn.body=some c) (hn:Nat.ble 1 fn.ntmps=true) {q:α→Prop} {F:α→δ}
  (h:∀ a,q a→∃ v' h1,bodyL E f fn c [enc a] ⟨.e,0⟩=some (v',h1)∧v'.wk 0 (enc (F a))):cJ P f (cF (eA (Rel1 q F))):=
 primVal_ok hE hf hb fun args v hv=>by
  obtain⟨a,h1,h2,rfl⟩:=fY hv
  refine⟨by rw[(cS.1 h1).1];exact hn,_,h1,h a h2⟩
theorem prim2_ok (hE:dW P E) {f:Nat} {fn:Func} {c:Code} (hf:E.fns f=some fn) (hb:fn.body=some c) (hn:Nat.ble 2 fn.ntmps=true) {q:α→β→Prop} {F:α→β→δ}
  (h:∀ a b,q a b→∃ v' h1,bodyL E f fn c [enc a,enc b] ⟨.e,0⟩=some (v',h1)∧v'.wk 0 (enc (F a b))):cJ P f (cF (eA (Rel2 q F))):=
 primVal_ok hE hf hb fun args v hv=>by
  obtain⟨a,b,h1,h2,rfl⟩:=fY hv
  refine⟨by rw[(cS.1 h1).1];exact hn,_,h1,h a b h2⟩
theorem prim3_ok (hE:dW P E) {f:Nat} {fn:Func} {c:Code} (hf:E.fns f=some fn) (hb:fn.body=some c) (hn:Nat.ble 3 fn.ntmps=true) {q:α→β→γ→Prop} {F:α→β→γ→δ}
  (h:∀ a b e,q a b e→∃ v' h1,bodyL E f fn c [enc a,enc b,enc e] ⟨.e,0⟩=some (v',h1)∧v'.wk 0 (enc (F a b e))):cJ P f (cF (eA (Rel3 q F))):=
 primVal_ok hE hf hb fun args v hv=>by
  obtain⟨a,b,e,h1,h2,rfl⟩:=fY hv
  refine⟨by rw[(cS.1 h1).1];exact hn,_,h1,h a b e h2⟩
omit [Inhabited KA0] in
theorem fG {f:Nat} {q:α→Prop} {F:α→δ} (hp:E.prim f=some (cF (eA (Rel1 q F)))) {x:AV} {a:α} (hx:x.wk 0 (enc a)) (hq:q a) (h:H):evL E f [x] h=some (enc (F a),h):=by
 rw[evL_prim E hp,cF,rel1_of hx hq]
omit [Inhabited KA0] in
theorem prim2_call {f:Nat} {q:α→β→Prop} {F:α→β→δ} (hp:E.prim f=some (cF (eA (Rel2 q F)))) {x y:AV} {a:α} {b:β} (hx:x.wk 0 (enc a)) (hy:y.wk 0 (enc b)) (hq:q a b) (h:H):evL E f [x,y] h=some (enc (F a b),h):=by
 rw[evL_prim E hp,cF,rel2_of hx hy hq]
omit [Inhabited KA0] in
theorem prim3_call {f:Nat} {q:α→β→γ→Prop} {F:α→β→γ→δ} (hp:E.prim f=some (cF (eA (Rel3 q F)))) {x y z:AV} {a:α} {b:β} {c:γ} (hx:x.wk 0 (enc a)) (hy:y.wk 0 (enc b)) (hz:z.wk 0 (enc c)) (hq:q a b c) (h:H):evL E f [x,y,z] h=some (enc (F a b c),h):=by
 rw[evL_prim E hp,cF,rel3_of hx hy hz hq]
end
inductive Ty where
 | mk (op:List Nat) (n:Int) (kids:List Ty)
namespace Ty
def op:Ty→List Nat | .mk o _ _=>o
def n:Ty→Int | .mk _ n _=>n
def kids:Ty→List Ty | .mk _ _ k=>k
mutual
def av:Ty→AV
 | .mk op n ks => .agg [.str op,.int .i64 n,.sl .no (avs ks)]
def avs:List Ty→List AV
 | []=>[]
 | t::l=>av t::avs l
end
theorem avs_map:∀ l:List Ty,avs l=l.map av
 | []=>rfl
 | t::l=>by rw[avs,avs_map l];rfl
mutual
theorem av_inj:∀ {a b:Ty} {x:AV},x.wk 0 a.av→x.wk 0 b.av→a=b
 | .mk o1 n1 k1,.mk o2 n2 k2,x,h1,h2=>by
  simp only[av]at h1 h2
  cases x with
  | ptr p=>cases p<;>simp[AV.wk]at h1
  | map p=>cases p<;>simp[AV.wk]at h1
  | agg cs=>
   simp only[AV.wk,AV.agg.injEq]at h1 h2
   obtain⟨ds,rfl,h1⟩:=h1
   obtain⟨es,rfl,h2⟩:=h2
   match cs,h1,h2 with
   | [c0,c1,c2],h1,h2=>
    simp only[cK]at h1 h2
    obtain⟨a1,a2,a3,_⟩:=h1
    obtain⟨b1,b2,b3,_⟩:=h2
    have e1:o1=o2:=congrArg Str.s (Enc.inj (α:=Str) (a:=⟨o1⟩) (b:=⟨o2⟩) a1 b1)
    have e2:n1=n2:=Enc.inj (α:=Int) a2 b2
    cases c2 with
    | ptr p=>cases p<;>simp[AV.wk]at a3
    | map p=>cases p<;>simp[AV.wk]at a3
    | sl o els=>
     simp only[AV.wk,AV.sl.injEq]at a3 b3
     obtain⟨p,ds,⟨_,rfl⟩,_,a3⟩:=a3
     obtain⟨q,es,⟨_,rfl⟩,_,b3⟩:=b3
     rw[e1,e2,avs_inj a3 b3]
    | _=>simp[AV.wk]at a3
   | [],h1,_=>exact absurd (cS.1 h1).1 (by simp)
   | [_],h1,_=>exact absurd (cS.1 h1).1 (by simp)
   | [_,_],h1,_=>exact absurd (cS.1 h1).1 (by simp)
   | _::_::_::_::_,h1,_=>exact absurd (cS.1 h1).1 (by simp)
  | _=>simp[AV.wk]at h1
theorem avs_inj:∀ {a b:List Ty} {x:List AV},AV.wks 0 x (avs a)→AV.wks 0 x (avs b)→a=b
 | [],[],_,_,_=>rfl
 | [],_::_,x,h1,h2=>by
  have e1:=(cS.1 h1).1
  have e2:=(cS.1 h2).1
  simp[avs]at e1 e2
  rw[e1]at e2;simp at e2
 | _::_,[],x,h1,h2=>by
  have e1:=(cS.1 h1).1
  have e2:=(cS.1 h2).1
  simp[avs]at e1 e2
  rw[e2]at e1;simp at e1
 | a::l,b::m,x,h1,h2=>by
  cases x with
  | nil=>simp[AV.wks,avs]at h1
  | cons y x=>
   simp only[avs,cK]at h1 h2
   rw[av_inj h1.1 h2.1,avs_inj h1.2 h2.2]
end
mutual
theorem av_bare (n:Nat):∀ t:Ty,t.av.wk n t.av
 | .mk o m ks=>by
  simp only[av,AV.wk]
  exact⟨_,rfl,cK.2 ⟨by simp[AV.wk],cK.2 ⟨by simp[AV.wk],cK.2 ⟨by
   simp only[AV.wk]
   exact⟨.no,_,rfl,.inl rfl,avs_bare n ks⟩,by simp[AV.wks]⟩⟩⟩⟩
theorem avs_bare (n:Nat):∀ l:List Ty,AV.wks n (avs l) (avs l)
 | []=>by simp[AV.wks,avs]
 | t::l=>⟨_,_,rfl,av_bare n t,avs_bare n l⟩
end
instance:Enc Ty:=⟨av,av_inj,av_bare⟩
end Ty
end Go.Ev
namespace Go.Ev
variable [MT]
theorem prim_empty {α β δ:Type} [Enc α] [Enc β] [Enc δ] {q:α→β→Prop} {F:α→β→δ} (hq:∀ a b,¬ q a b) (a:List AV) (h:H):cF (eA (Rel2 q F)) a h=none:=by
 unfold cF
 cases hv:eA (Rel2 q F) a with
 | none=>rfl
 | some v=>obtain⟨x,y,_,h2,_⟩:=fY hv;exact absurd h2 (hq x y)
theorem prim_empty1 {α δ:Type} [Enc α] [Enc δ] {q:α→Prop} {F:α→δ} (hq:∀ a,¬ q a) (a:List AV) (h:H):cF (eA (Rel1 q F)) a h=none:=by
 unfold cF
 cases hv:eA (Rel1 q F) a with
 | none=>rfl
 | some v=>obtain⟨x,_,h2,_⟩:=fY hv;exact absurd h2 (hq x)
theorem prim_empty3 {α β γ δ:Type} [Enc α] [Enc β] [Enc γ] [Enc δ] {q:α→β→γ→Prop} {F:α→β→γ→δ} (hq:∀ a b c,¬ q a b c) (a:List AV) (h:H):cF (eA (Rel3 q F)) a h=none:=by
 unfold cF
 cases hv:eA (Rel3 q F) a with
 | none=>rfl
 | some v=>obtain⟨x,y,z,_,h2,_⟩:=fY hv;exact absurd h2 (hq x y z)
theorem union1 {α δ:Type} [Enc α] [Enc δ] {q:Nat→α→Prop} {q':α→Prop} {F:α→δ} (hq:∀ a,q' a→∃ d,q d a) (a:List AV) (h:H) (r:AV × H) (hr:cF (eA (Rel1 q' F)) a h=some r):∃ d,cF (eA (Rel1 (q d) F)) a h=some r:=by
 unfold cF at hr
 cases hv:eA (Rel1 q' F) a with
 | none=>rw[hv]at hr;simp at hr
 | some v=>
  rw[hv]at hr
  obtain⟨x,h1,h2,h3⟩:=fY hv
  obtain⟨d,hd⟩:=hq x h2
  refine⟨d,?_⟩
  unfold cF
  rw[ofRel_of (R:=Rel1 (q d) F) ⟨x,h1,hd,h3⟩ (fun u ⟨b,g1,_,g2⟩=>by
   obtain⟨y,k,rfl,w1,w2⟩:∃ y k,a=y::k∧y.wk 0 (Enc.enc x)∧AV.wks 0 k []:=by
    cases a with
    | nil=>exact absurd (cS.1 h1).1 (by simp)
    | cons y k=>exact⟨y,k,rfl,cK.1 h1⟩
   rw[g2,h3,Enc.inj (cK.1 g1).1 w1])]
  exact hr
theorem union2 {α β δ:Type} [Enc α] [Enc β] [Enc δ] {q:Nat→α→β→Prop} {q':α→β→Prop} {F:α→β→δ} (hq:∀ a b,q' a b→∃ d,q d a b) (a:List AV) (h:H) (r:AV × H) (hr:cF (eA (Rel2 q' F)) a h=some r):∃ d,cF (eA (Rel2 (q d) F)) a h=some r:=by
 unfold cF at hr
 cases hv:eA (Rel2 q' F) a with
 | none=>rw[hv]at hr;simp at hr
 | some v=>
  rw[hv]at hr
  obtain⟨x,y,h1,h2,h3⟩:=fY hv
  obtain⟨d,hd⟩:=hq x y h2
  refine⟨d,?_⟩
  unfold cF
  rw[ofRel_of (R:=Rel2 (q d) F) ⟨x,y,h1,hd,h3⟩ (fun u ⟨b,c,g1,_,g2⟩=>by
   match a,h1,g1 with
   | [u0,u1],h1,g1=>
    obtain⟨w1,w2⟩:=cK.1 h1
    obtain⟨w3,w4⟩:=cK.1 g1
    rw[g2,h3,Enc.inj w3 w1,Enc.inj (wks1.1 w4) (wks1.1 w2)]
   | [],h1,_=>exact absurd (cS.1 h1).1 (by simp)
   | [_],h1,_=>exact absurd (cS.1 h1).1 (by simp)
   | _::_::_::_,h1,_=>exact absurd (cS.1 h1).1 (by simp))]
  exact hr
theorem union3 {α β γ δ:Type} [Enc α] [Enc β] [Enc γ] [Enc δ] {q:Nat→α→β→γ→Prop} {q':α→β→γ→Prop} {F:α→β→γ→δ} (hq:∀ a b c,q' a b c→∃ d,q d a b c) (a:List AV) (h:H) (r:AV × H) (hr:cF (eA (Rel3 q' F)) a h=some r):∃ d,cF (eA (Rel3 (q d) F)) a h=some r:=by
 unfold cF at hr
 cases hv:eA (Rel3 q' F) a with
 | none=>rw[hv]at hr;simp at hr
 | some v=>
  rw[hv]at hr
  obtain⟨x,y,z,h1,h2,h3⟩:=fY hv
  obtain⟨d,hd⟩:=hq x y z h2
  refine⟨d,?_⟩
  unfold cF
  rw[ofRel_of (R:=Rel3 (q d) F) ⟨x,y,z,h1,hd,h3⟩ (fun u ⟨b,c,e,g1,_,g2⟩=>by
   match a,h1,g1 with
   | [u0,u1,u2],h1,g1=>
    obtain⟨w1,w2⟩:=cK.1 h1
    obtain⟨w3,w4⟩:=cK.1 g1
    obtain⟨w5,w6⟩:=cK.1 w2
    obtain⟨w7,w8⟩:=cK.1 w4
    rw[g2,h3,Enc.inj w3 w1,Enc.inj w7 w5,Enc.inj (wks1.1 w8) (wks1.1 w6)]
   | [],h1,_=>exact absurd (cS.1 h1).1 (by simp)
   | [_],h1,_=>exact absurd (cS.1 h1).1 (by simp)
   | [_,_],h1,_=>exact absurd (cS.1 h1).1 (by simp)
   | _::_::_::_::_,h1,_=>exact absurd (cS.1 h1).1 (by simp))]
  exact hr
theorem cY {E:Env} {f:Nat} {fn:Func} {c:Code} {args:List AV} {h:H} {r:Option (AV × H)} (hp:E.prim f=none) (hf:E.fns f=some fn) (hb:fn.body=some c) (hl:Nat.ble args.length fn.ntmps=true) (he:evL E f args h=r):bodyL E f fn c args h=r:=by
 rw[←he,bE E hp hf hb _ _ hl];rfl
def RowE (et sz:Nat) (h:H) (o:Own) (els:List AV):Prop:=(o = .full∧els=[])∨∃ id,o = .ch id∧h.t.get id=some (.chain els.length et sz)∧id<h.nx
theorem RowE.ne {et sz:Nat} {h:H} {o:Own} {els:List AV} (r:RowE et sz h o els) {q:Nat} {cs:List AV} (hq:h.t.get q=some (.cells cs)):o ≠ .ch q:=by
 rcases r with ⟨rfl,_⟩|⟨id,rfl,hg,_⟩
 ·simp
 ·rintro⟨⟩;rw[hq]at hg;cases hg
theorem RowE.mono {et sz:Nat} {h h2:H} {o:Own} {els:List AV} (r:RowE et sz h o els) (hn:h.nx≤h2.nx) (hg:∀ j,j<h.nx→h2.t.get j=h.t.get j):RowE et sz h2 o els:=by
 rcases r with e|⟨id,e,hi,hid⟩
 ·exact .inl e
 ·exact .inr ⟨id,e,by rw[hg id hid];exact hi,by omega⟩
theorem app_any {e sz byt:Nat} {h:H} {w:Own} {xs ys:List AV} (hsz:0<sz) (hb:0<byt) (sx:aM sz xs=true) (sy:aM sz ys=true) (oy:bY ys=true) (hl:(xs.length+ys.length)*byt≤140737488355328) (r:RowE e sz h w xs) :
  ∃ w' h',bG e sz byt h (.sl w xs) ys=some (.sl w' (xs++ys),h')∧RowE e sz h' w' (xs++ys)∧h.nx≤h'.nx∧∀ j,j<h.nx→w ≠ .ch j→h'.t.get j=h.t.get j:=by
 have hc:(Nat.blt 0 sz&&(Nat.blt 0 byt&&(aM sz ys&&(bY ys&&(aM sz xs&&Nat.ble ((xs.length+ys.length)*byt) 140737488355328)))))=true:=by
  rw[sx,sy,oy,cR.2 hsz,cR.2 hb]
  have:Nat.ble ((xs.length+ys.length)*byt) 140737488355328=true:=by rw[Nat.ble_eq];exact hl
  rw[this];rfl
 unfold bG
 simp only[hc,cond_true]
 cases ys with
 | nil=>exact⟨w,h,by simp,by simpa using r,Nat.le_refl _,fun _ _ _=>rfl⟩
 | cons y l=>
  rcases r with ⟨rfl,rfl⟩|⟨id,rfl,hg,hi⟩
  ·exact⟨.ch h.nx,_,rfl,.inr ⟨_,rfl,by simp[H.new,T.aA],by simp[H.new]⟩,by simp[H.new],fun j hj _=>by simp only[H.new,T.aA];rw[if_neg (by omega)]⟩
  ·have hbq:(Nat.beq xs.length xs.length&&(Nat.beq e e&&Nat.beq sz sz))=true:=by simp
   refine⟨.ch id,h.put id (.chain (xs.length+(y::l).length) e sz),?_,.inr ⟨_,rfl,by simp[H.put,T.aA],by simpa[H.put]using hi⟩,by simp[H.put],fun j hj hne=>by
    have:j≠id:=fun e=>hne (by rw[e])
    simp only[H.put,T.aA];rw[if_neg this]⟩
   simp only[hg,hbq,cond_true]
theorem own_app {e sz byt:Nat} {h h':H} {w w':Own} {xs ys zs:List AV} (r:RowE e sz h w xs) (he:bG e sz byt h (.sl w xs) ys=some (.sl w' zs,h')) (j:Nat) (hj:w' = .ch j):w = .ch j∨h.nx≤j:=by
 subst hj
 unfold bG at he
 simp only at he
 cases hc:(Nat.blt 0 sz&&(Nat.blt 0 byt&&(aM sz ys&&(bY ys&&(aM sz xs&&Nat.ble ((xs.length+ys.length)*byt) 140737488355328)))))with
 | false=>rw[hc]at he;simp at he
 | true=>
  rw[hc]at he
  simp only[cond_true]at he
  cases ys with
  | nil=>
   simp only[Option.some.injEq,Prod.mk.injEq,AV.sl.injEq]at he
   exact .inl he.1.1
  | cons y l=>
   rcases r with ⟨rfl,_⟩|⟨id,rfl,hg,_⟩
   ·simp only[Option.some.injEq,Prod.mk.injEq,AV.sl.injEq,Own.ch.injEq]at he
    exact .inr (by omega)
   ·simp only[hg]at he
    cases hd:(Nat.beq xs.length xs.length&&(Nat.beq e e&&Nat.beq sz sz))with
    | false=>rw[hd]at he;simp at he
    | true=>
     rw[hd]at he
     simp only[cond_true,Option.some.injEq,Prod.mk.injEq,AV.sl.injEq,Own.ch.injEq]at he
     exact .inl (by rw[he.1.1])
theorem cU {a b:List Nat}:aB a b=true↔a=b:=by rw[fX];simp
theorem dN {a b:Int}:aE a b=true↔a=b:=by cases a<;>cases b<;>simp[aE]<;>omega
theorem wrI {a:Int} (h1 : -9223372036854775808≤a) (h2:a<9223372036854775808):wr .i64 a=a:=by haveI:Inhabited KA0:=⟨⟨[]⟩⟩;rw[wr_eq];exact eX h1 h2
inductive Nd where
 | mk (op name arg:List Nat) (n at_:Int) (kids:List Nd)
namespace Nd
def op:Nd→List Nat | .mk o _ _ _ _ _=>o
def name:Nd→List Nat | .mk _ o _ _ _ _=>o
def arg:Nd→List Nat | .mk _ _ o _ _ _=>o
def n:Nd→Int | .mk _ _ _ n _ _=>n
def at_:Nd→Int | .mk _ _ _ _ n _=>n
def kids:Nd→List Nd | .mk _ _ _ _ _ k=>k
mutual
def av:Nd→AV
 | .mk op name arg n a ks => .agg [.str op,.str name,.str arg,.int .i64 n,.int .i64 a,.sl .no (avs ks)]
def avs:List Nd→List AV
 | []=>[]
 | t::l=>av t::avs l
end
theorem avs_map:∀ l:List Nd,avs l=l.map av
 | []=>rfl
 | t::l=>by rw[avs,avs_map l];rfl
mutual
theorem av_inj:∀ {a b:Nd} {x:AV},x.wk 0 a.av→x.wk 0 b.av→a=b
 | .mk o1 p1 q1 n1 m1 k1,.mk o2 p2 q2 n2 m2 k2,x,h1,h2=>by
  simp only[av]at h1 h2
  cases x with
  | ptr p=>cases p<;>simp[AV.wk]at h1
  | map p=>cases p<;>simp[AV.wk]at h1
  | agg cs=>
   simp only[AV.wk,AV.agg.injEq]at h1 h2
   obtain⟨ds,rfl,h1⟩:=h1
   obtain⟨es,rfl,h2⟩:=h2
   match cs,h1,h2 with
   | [c0,c1,c2,c3,c4,c5],h1,h2=>
    simp only[cK]at h1 h2
    obtain⟨a1,a2,a3,a4,a5,a6,_⟩:=h1
    obtain⟨b1,b2,b3,b4,b5,b6,_⟩:=h2
    have e1:o1=o2:=congrArg Str.s (Enc.inj (α:=Str) (a:=⟨o1⟩) (b:=⟨o2⟩) a1 b1)
    have e2:p1=p2:=congrArg Str.s (Enc.inj (α:=Str) (a:=⟨p1⟩) (b:=⟨p2⟩) a2 b2)
    have e3:q1=q2:=congrArg Str.s (Enc.inj (α:=Str) (a:=⟨q1⟩) (b:=⟨q2⟩) a3 b3)
    have e4:n1=n2:=Enc.inj (α:=Int) a4 b4
    have e5:m1=m2:=Enc.inj (α:=Int) a5 b5
    cases c5 with
    | ptr p=>cases p<;>simp[AV.wk]at a6
    | map p=>cases p<;>simp[AV.wk]at a6
    | sl o els=>
     simp only[AV.wk,AV.sl.injEq]at a6 b6
     obtain⟨p,ds,⟨_,rfl⟩,_,a6⟩:=a6
     obtain⟨q,es,⟨_,rfl⟩,_,b6⟩:=b6
     rw[e1,e2,e3,e4,e5,avs_inj a6 b6]
    | _=>simp[AV.wk]at a6
   | [],h1,_=>exact absurd (cS.1 h1).1 (by simp)
   | [_],h1,_=>exact absurd (cS.1 h1).1 (by simp)
   | [_,_],h1,_=>exact absurd (cS.1 h1).1 (by simp)
   | [_,_,_],h1,_=>exact absurd (cS.1 h1).1 (by simp)
   | [_,_,_,_],h1,_=>exact absurd (cS.1 h1).1 (by simp)
   | [_,_,_,_,_],h1,_=>exact absurd (cS.1 h1).1 (by simp)
   | _::_::_::_::_::_::_::_,h1,_=>exact absurd (cS.1 h1).1 (by simp)
  | _=>simp[AV.wk]at h1
theorem avs_inj:∀ {a b:List Nd} {x:List AV},AV.wks 0 x (avs a)→AV.wks 0 x (avs b)→a=b
 | [],[],_,_,_=>rfl
 | [],_::_,x,h1,h2=>by
  have e1:=(cS.1 h1).1
  have e2:=(cS.1 h2).1
  simp[avs]at e1 e2
  rw[e1]at e2;simp at e2
 | _::_,[],x,h1,h2=>by
  have e1:=(cS.1 h1).1
  have e2:=(cS.1 h2).1
  simp[avs]at e1 e2
  rw[e2]at e1;simp at e1
 | a::l,b::m,x,h1,h2=>by
  cases x with
  | nil=>simp[AV.wks,avs]at h1
  | cons y x=>
   simp only[avs,cK]at h1 h2
   rw[av_inj h1.1 h2.1,avs_inj h1.2 h2.2]
end
mutual
theorem av_bare (n:Nat):∀ t:Nd,t.av.wk n t.av
 | .mk o p q m k ks=>by
  simp only[av]
  rw[wk_agg]
  simp only[cK,wk_sl]
  exact⟨by simp[AV.wk],by simp[AV.wk],by simp[AV.wk],by simp[AV.wk],by simp[AV.wk],⟨own_no,avs_bare n ks⟩,wks_nil⟩
theorem avs_bare (n:Nat):∀ l:List Nd,AV.wks n (avs l) (avs l)
 | []=>by simp[AV.wks,avs]
 | t::l=>⟨_,_,rfl,av_bare n t,avs_bare n l⟩
end
instance:Enc Nd:=⟨av,av_inj,av_bare⟩
theorem bZ (t:Nd):t.av = .agg [.str t.op,.str t.name,.str t.arg,.int .i64 t.n,.int .i64 t.at_,.sl .no (avs t.kids)]:=by cases t;rfl
theorem avs_len (l:List Nd):(avs l).length=l.length:=by rw[avs_map,List.length_map]
theorem cX {l:List Nd} {i:Nat} {t:Nd} (h:l[i]?=some t):(avs l)[i]?=some t.av:=by rw[avs_map,List.getElem?_map,h];rfl
mutual
def dep:Nd→Nat
 | .mk _ _ _ _ _ ks=>deps ks+1
def deps:List Nd→Nat
 | []=>0
 | t::l=>max (dep t) (deps l)
end
theorem dep_pos (t:Nd):1≤t.dep:=by cases t;simp[dep]
theorem dep_mem:∀ {l:List Nd} {t:Nd},t∈l→t.dep≤deps l
 | a::l,t,h=>by
  rcases List.mem_cons.1 h with rfl|h
  ·simp only[deps];omega
  ·have:=dep_mem h;simp only[deps];omega
mutual
def size:Nd→Nat
 | .mk _ _ _ _ _ ks=>dU ks+1
def dU:List Nd→Nat
 | []=>0
 | t::l=>size t+dU l
end
theorem size_mem:∀ {l:List Nd} {t:Nd},t∈l→t.size≤dU l
 | a::l,t,h=>by
  rcases List.mem_cons.1 h with rfl|h
  ·exact Nat.le_add_right ..
  ·exact Nat.le_trans (size_mem h) (Nat.le_add_left ..)
def okS (s:List Nat):Prop:=s.length≤140737488351232∧∀ x∈s,x<256
mutual
def fit:Nd→Prop
 | .mk o p q n a ks=>okS o∧okS p∧okS q∧(-9223372036854775808≤n∧n≤9223372036854775807)∧(-9223372036854775808≤a∧a≤9223372036854775807)∧ks.length≤9223372036854775807∧fits ks
def fits:List Nd→Prop
 | []=>True
 | t::l=>fit t∧fits l
end
theorem fits_mem:∀ {l:List Nd},fits l↔∀ t∈l,fit t
 | []=>by simp[fits]
 | t::l=>by simp[fits,fits_mem (l:=l)]
theorem fit_iff (t:Nd):fit t↔okS t.op∧okS t.name∧okS t.arg∧(-9223372036854775808≤t.n∧t.n≤9223372036854775807)∧(-9223372036854775808≤t.at_∧t.at_≤9223372036854775807)∧t.kids.length≤9223372036854775807∧fits t.kids:=by cases t;rfl
theorem dep_eq (t:Nd):t.dep=deps t.kids+1:=by cases t;rfl
theorem size_eq (t:Nd):t.size=dU t.kids+1:=by cases t;rfl
end Nd
end Go.Ev
namespace Go.Ev
variable [MT]
section
variable [Inhabited KA0] {P:Program}
structure Old (w w':World):Prop where
 os:w'.os=w.os
 tape:w'.tape=w.tape
 output:w'.output=w.output
 size:w.heap.size≤w'.heap.size
 same:∀ j,j<w.heap.size→w'.heap[j]?=w.heap[j]?
end
end Go.Ev
