/- Each operation of the abstract machine is the model's: what looks into memory, and what writes. -/
import Derived.Test.YtogjplcnmibnlaaGreatDoorEvH
set_option autoImplicit false
set_option linter.unusedSectionVars false
set_option linter.unusedVariables false
set_option linter.unusedSimpArgs false
namespace Go.Ev
variable [Inhabited KA0] [MT]
theorem bytes_beq (a b:ByteArray):(a==b)=true↔a=b:=by
 obtain⟨x⟩:=a
 obtain⟨y⟩:=b
 constructor
 ·intro h
  have e:x=y:=by simpa using (show(x==y)=true from h)
  rw[e]
 ·intro h
  injection h with h
  subst h
  show(x==x)=true
  simp
section
variable {P:Program} {G:Gh} {w:World} {h:H}
def KindD (P:Program) (d:TypeDesc) (key:AV):Prop:=match d,key with
 | .int j,.int k _=>j=k
 | .string,.str _=>True
 | .pointer e,.ptr (some _)=>∃ inf,P.info? e=some inf∧inf.size≠0
 | _,_=>False
theorem keyOk_spec {ty:Nat→Option TyI} (hT:TyOk P ty) {d:TypeDesc} {key:AV} (hk:keyOk ty (kindOf P d) key=true):KindD P d key:=by
 generalize hq:kindOf P d=kk at hk
 unfold keyOk at hk
 split at hk
 ·have:=kind_int hq.symm
  subst this
  exact ikBeq_eq.1 hk
 ·have:=kind_str hq.symm
  subst this
  trivial
 ·rename_i e a
  have:d = .pointer e:=by
   cases d<;>simp[kindOf]at hq
   case struct fs=>split at hq<;>simp at hq
   case pointer e'=>rw[hq]
  subst this
  split at hk
  ·rename_i i hi
   obtain⟨inf,d',h1,h2,_,h3,_⟩:=bM (hT _ _ hi)
   exact⟨inf,h1,by have:=cR.1 hk;omega⟩
  ·cases hk
 ·simp at hk
theorem run_checkKey {kt:Nat} {d:TypeDesc} (hd:P.underlying kt=some d) {key:AV} {K:Value} (hK:VR G w K key) (hk:KindD P d key) (e:Bool) (n:Nat):(Instr.checkKey e (n+1) kt K).run P w = .ok () w:=by
 unfold KindD at hk
 split at hk
 ·subst hk
  cases hK
  simp[Instr.checkKey,bL hd]
 ·cases hK
  simp[Instr.checkKey,bL hd]
 ·cases hK
  simp[Instr.checkKey,bL hd]
 ·exact hk.elim
def plainKey:TypeDesc→Bool
 | .pointer _=>false
 | _=>true
theorem sameNow_sim {d:TypeDesc} {key j:AV} (hp:plainKey d=true) (hk:KindD P d key) {K J:Value} (hK:VR G w K key) (hJ:VR G w J j) {b:Bool} (hc:keyCmp key j=some b):Instr.sameNow d K J=some b∧(b=true→∀ n,Instr.sameBits n J K=true):=by
 unfold keyCmp at hc
 split at hc
 ·rename_i k p j q
  cases hb:bK k j with
  | false=>rw[hb]at hc;simp at hc
  | true=>
   rw[hb]at hc
   simp only[cond_true,Option.some.injEq]at hc
   have:=ikBeq_eq.1 hb
   subst this
   cases hK;cases hJ
   unfold KindD at hk
   split at hk
   ·rename_i j' k' n' e
    cases e
    subst hk
    refine⟨by simp[Instr.sameNow,←hc,bU],fun hb2 n => ?_⟩
    rw[hb2,bU]at hc
    have:p=q:=by simpa using hc
    subst this
    cases n<;>simp[Instr.sameBits]
   ·rename_i e;cases e
   ·rename_i e;cases e
   ·exact hk.elim
 ·rename_i p q
  simp only[Option.some.injEq]at hc
  cases hK;cases hJ
  rename_i s1 s2
  unfold KindD at hk
  split at hk
  ·rename_i e;cases e
  ·have hbe:(s1==s2)=b:=by
    rw[←hc,fX,bytesOf_eq]
    by_cases h:s1=s2
    ·subst h;simp[bytes_beq]
    ·have h0:(s1==s2)=false:=by
      cases hb:(s1==s2)with
      | false=>rfl
      | true=>exact absurd (by simpa[bytes_beq]using hb) h
     have:¬ s1.toList=s2.toList:=by
      rw[ByteArray.toList_eq,ByteArray.toList_eq]
      intro e
      apply h
      cases s1;cases s2
      simp at e
      simp[e]
     rw[h0,beq_eq_false_iff_ne.2 this]
   refine⟨by simp only[Instr.sameNow,hbe],fun hb2 n => ?_⟩
   rw[hb2]at hbe
   have:s1=s2:=by simpa[bytes_beq]using hbe
   subst this
   cases n<;>simp[Instr.sameBits,bytes_beq]
  ·rename_i e;cases e
  ·exact hk.elim
 ·cases hK
  unfold KindD at hk
  split at hk
  ·rename_i e;cases e
  ·rename_i e;cases e
  ·cases hp
  ·exact hk.elim
 ·simp at hc
def EntR (G:Gh) (w:World) (ents:List MapEntry) (es:List (AV × AV)):Prop:=ents.length=es.length∧∀ (i:Nat) e k x,ents[i]?=some e→es[i]?=some (k,x)→VR G w e.key k∧VR G w e.val x
theorem EntR.uncons {ents:List MapEntry} {k v:AV} {es:List (AV × AV)} (r:EntR G w ents ((k,v)::es)):∃ e l,ents=e::l∧VR G w e.key k∧VR G w e.val v∧EntR G w l es:=by
 cases ents with
 | nil=>have:=r.1;simp at this
 | cons e l=>
  obtain⟨h1,h2⟩:=r.2 0 e k v rfl rfl
  exact⟨e,l,rfl,h1,h2,by have:=r.1;simpa using this,fun i e' k' x' he hx=>r.2 (i+1) e' k' x' (by simpa using he) (by simpa using hx)⟩
theorem findNow_get {d:TypeDesc} {key:AV} (hp:plainKey d=true) (hk:KindD P d key) {K:Value} (hK:VR G w K key):∀ {es:List (AV × AV)} {ents:List MapEntry} (i:Nat) {r:Option AV},EntR G w ents es→mapGet key es=some r →
  (r=none∧Instr.findNow d K ents i=some none)∨(∃ j V v,r=some v∧Instr.findNow d K ents i=some (some (i+j,V))∧VR G w V v)
 | [],ents,i,r,hE,hg=>by
  simp only[mapGet,Option.some.injEq]at hg
  have:ents=[]:=List.eq_nil_of_length_eq_zero hE.1
  subst this
  exact .inl ⟨hg.symm,rfl⟩
 | (j,v)::es,ents,i,r,hE,hg=>by
  obtain⟨e,l,rfl,h1,h2,h3⟩:=hE.uncons
  simp only[mapGet]at hg
  cases hc:keyCmp key j with
  | none=>rw[hc]at hg;simp at hg
  | some b=>
   rw[hc]at hg
   have hs:=(sameNow_sim hp hk hK h1 hc).1
   simp only[Instr.findNow,hs]
   cases b with
   | true=>
    simp only[Option.some.injEq]at hg
    exact .inr ⟨0,e.val,v,hg.symm,rfl,h2⟩
   | false=>
    simp only at hg
    rcases findNow_get hp hk hK (i+1) h3 hg with ⟨h4,h5⟩|⟨j',V,v',h4,h5,h6⟩
    ·exact .inl ⟨h4,h5⟩
    ·exact .inr ⟨j'+1,V,v',h4,by rw[h5,show i+1+j'=i+(j'+1) by omega],h6⟩
theorem findNow_put {d:TypeDesc} {key v:AV} (hp:plainKey d=true) (hk:KindD P d key) {K V:Value} (hK:VR G w K key) (hV:VR G w V v):∀ {es:List (AV × AV)} {ents:List MapEntry} (i:Nat) {m:List (AV × AV)},EntR G w ents es→mapPut key v es=some m →
  (Instr.findNow d K ents i=some none∧m=es++[(key,v)]) ∨
  (∃ j V' e,Instr.findNow d K ents i=some (some (i+j,V'))∧ents[j]?=some e∧(∀ n,Instr.sameBits n e.key K=true)∧j<es.length∧m=es.set j (key,v))
 | [],ents,i,m,hE,hg=>by
  simp only[mapPut,Option.some.injEq]at hg
  have:ents=[]:=List.eq_nil_of_length_eq_zero hE.1
  subst this
  exact .inl ⟨rfl,hg.symm⟩
 | (j,u)::es,ents,i,m,hE,hg=>by
  obtain⟨e,l,rfl,h1,h2,h3⟩:=hE.uncons
  simp only[mapPut]at hg
  cases hc:keyCmp key j with
  | none=>rw[hc]at hg;simp at hg
  | some b=>
   rw[hc]at hg
   obtain⟨hs,hb⟩:=sameNow_sim hp hk hK h1 hc
   simp only[Instr.findNow,hs]
   cases b with
   | true=>
    simp only[Option.some.injEq]at hg
    exact .inr ⟨0,e.val,e,rfl,rfl,hb rfl,by simp,by simp[←hg]⟩
   | false=>
    simp only at hg
    cases hp2:mapPut key v es with
    | none=>rw[hp2]at hg;simp at hg
    | some m'=>
     rw[hp2]at hg
     simp only[Option.some.injEq]at hg
     rcases findNow_put hp hk hK hV (i+1) h3 hp2 with ⟨h4,h5⟩|⟨j',V',e',h4,h5,h6,h7,h8⟩
     ·exact .inl ⟨h4,by rw[←hg,h5];rfl⟩
     ·exact .inr ⟨j'+1,V',e',by rw[h4,show i+1+j'=i+(j'+1) by omega],by simpa using h5,h6,by simp only[List.length_cons];omega,by rw[←hg,h8];rfl⟩
theorem inj_obj (I:Inv G w h) {a b c:Nat} (h1:G.ρ a=some c) (h2:G.ρ b=some c):a=b:=by
 have e1:=(I.obj a c h1).2.2.1
 have e2:=(I.obj b c h2).2.2.1
 rw[e1]at e2
 injection e2
theorem same_other (I:Inv G w h) {a b i j x y:Nat} (h1:G.ρ a=some x) (h2:G.ρ b=some y) (hne:x≠y):(sameAddr ⟨x,i,none⟩ ⟨y,j,none⟩).run P w = .ok false w:=by
 have o1:=(I.obj a x h1).2.2.2
 have o2:=(I.obj b y h2).2.2.2
 have key:∀ {id z:Nat},ObjR G w (h.t.get id) w.heap[z]?→(∃ c t,w.heap[z]?=some (.cells c t (0,0)))∨∃ es k,w.heap[z]?=some (.map es k):=by
  intro id z o
  unfold ObjR at o
  split at o
  ·rename_i e1 e2
   rw[e2]
   obtain⟨rfl,_⟩:=o
   exact .inl ⟨_,_,rfl⟩
  ·rename_i e1 e2
   rw[e2]
   exact .inr ⟨_,_,rfl⟩
  ·exact o.elim
 have get:∀ {z:Nat} {es:Array MapEntry} {k:Nat},w.heap[z]?=some (.map es k)→(getObj z).run P w = .ok (.map es k) w:=by
  intro z es k ho
  simp[getObj,Sem.run,ho]
 rcases key o1 with ⟨c1,t1,q1⟩|⟨c1,t1,q1⟩<;>rcases key o2 with ⟨c2,t2,q2⟩|⟨c2,t2,q2⟩
 ·simp[sameAddr,hne,World.frozen?,q1,q2,noView,viewAt,World.shape?,mayBeOne,stringish]
 ·simp[sameAddr,hne,World.frozen?,q1,q2,get q2,noView,viewAt,World.shape?,mayBeOne,stringish]
 ·simp[sameAddr,hne,World.frozen?,q1,q2,get q1,noView,viewAt,World.shape?,mayBeOne,stringish]
 ·simp[sameAddr,hne,World.frozen?,q1,q2,get q1,get q2,noView,viewAt,World.shape?,mayBeOne,stringish]
theorem equal_ptr {kt e:Nat} (hd:P.underlying kt=some (.pointer e)) {inf:TypeInfo} (hi:P.info? e=some inf) (hs:inf.size≠0) (a b:Addr):(Op.equal kt (.pointer (some a)) (.pointer (some b))).run P w=(sameAddr a b).run P w:=by
 have k:∀ d:Nat,(Op.equalIn (d+1) kt (.pointer (some a)) (.pointer (some b))).run P w=(sameAddr a b).run P w:=fun d=>by
  simp only[Op.equalIn,Sem.run_bind,bL hd,Result.andThen_ok,run_sizeOf hi]
  rw[if_pos hs]
 exact k 9999
theorem ptr_equal (I:Inv G w h) {kt e:Nat} (hd:P.underlying kt=some (.pointer e)) {inf:TypeInfo} (hi:P.info? e=some inf) (hs:inf.size≠0) {a b i j:Nat} {K J:Value} (hK:VR G w K (.ptr (some (a,i)))) (hJ:VR G w J (.ptr (some (b,j)))) :
  (Op.equal kt K J).run P w = .ok (Nat.beq a b&&Nat.beq i j) w∧((Nat.beq a b&&Nat.beq i j)=true→J=K):=by
 cases hK with
 | ptr _ x _ h1=>cases hJ with
  | ptr _ y _ h2=>
   by_cases e:x=y
   ·subst e
    have:=inj_obj I h1 h2
    subst this
    have hb:Nat.beq a a=true:=bV.2 rfl
    rw[hb]
    by_cases e2:i=j
    ·subst e2
     have hb2:Nat.beq i i=true:=bV.2 rfl
     rw[hb2]
     refine⟨?_,fun _=>rfl⟩
     rw[equal_ptr hd hi hs]
     simp[sameAddr]
    ·rw[beq_no e2]
     refine⟨?_,fun h=>by simp at h⟩
     rw[equal_ptr hd hi hs]
     simp[sameAddr,e2]
   ·have hab:a≠b:=by
     rintro rfl
     rw[h1]at h2
     injection h2 with h2
     exact e h2
    rw[beq_no hab]
    refine⟨?_,fun h=>by simp at h⟩
    rw[equal_ptr hd hi hs,same_other I h1 h2 e]
    rfl
theorem ptr_cmp {p:Nat × Nat} {j:AV} {b:Bool} (hc:keyCmp (.ptr (some p)) j=some b):∃ q,j = .ptr (some q)∧b=(Nat.beq p.1 q.1&&Nat.beq p.2 q.2):=by
 unfold keyCmp at hc
 split at hc
 ·rename_i e;cases e
 ·rename_i e;cases e
 ·rename_i a i b' j' e
  cases e
  exact⟨_,rfl,(by simpa using hc.symm)⟩
 ·cases hc
theorem findAsk_get (I:Inv G w h) {kt e:Nat} (hd:P.underlying kt=some (.pointer e)) {inf:TypeInfo} (hi:P.info? e=some inf) (hs:inf.size≠0) {p:Nat × Nat} {K:Value} (hK:VR G w K (.ptr (some p))) :
  ∀ {es:List (AV × AV)} {ents:List MapEntry} (i:Nat) {r:Option AV},EntR G w ents es→mapGet (.ptr (some p)) es=some r →
  (r=none∧(Instr.findAsking kt K ents i).run P w = .ok none w)∨(∃ j V v,r=some v∧(Instr.findAsking kt K ents i).run P w = .ok (some (i+j,V)) w∧VR G w V v)
 | [],ents,i,r,hE,hg=>by
  simp only[mapGet,Option.some.injEq]at hg
  have:ents=[]:=List.eq_nil_of_length_eq_zero hE.1
  subst this
  exact .inl ⟨hg.symm,rfl⟩
 | (j,v)::es,ents,i,r,hE,hg=>by
  obtain⟨e,l,rfl,h1,h2,h3⟩:=hE.uncons
  simp only[mapGet]at hg
  cases hc:keyCmp (.ptr (some p)) j with
  | none=>rw[hc]at hg;simp at hg
  | some b=>
   rw[hc]at hg
   obtain⟨q,rfl,hb⟩:=ptr_cmp hc
   have hq:=(ptr_equal I hd hi hs hK h1).1
   rw[←hb]at hq
   cases b with
   | true=>
    simp only[Option.some.injEq]at hg
    exact .inr ⟨0,e.val,v,hg.symm,by simp[Instr.findAsking,hq],h2⟩
   | false=>
    simp only at hg
    rcases findAsk_get I hd hi hs hK (i+1) h3 hg with ⟨h4,h5⟩|⟨j',V,v',h4,h5,h6⟩
    ·exact .inl ⟨h4,by simp[Instr.findAsking,hq,h5]⟩
    ·exact .inr ⟨j'+1,V,v',h4,by simp only[Instr.findAsking,Sem.run_bind,hq,Result.andThen_ok,Bool.false_eq_true,if_false,h5,show i+1+j'=i+(j'+1) by omega],h6⟩
theorem findAsk_put (I:Inv G w h) {kt e:Nat} (hd:P.underlying kt=some (.pointer e)) {inf:TypeInfo} (hi:P.info? e=some inf) (hs:inf.size≠0) {p:Nat × Nat} {v:AV} {K V:Value} (hK:VR G w K (.ptr (some p))) (hV:VR G w V v) :
  ∀ {es:List (AV × AV)} {ents:List MapEntry} (i:Nat) {m:List (AV × AV)},EntR G w ents es→mapPut (.ptr (some p)) v es=some m →
  ((Instr.findAsking kt K ents i).run P w = .ok none w∧m=es++[(.ptr (some p),v)]) ∨
  (∃ j V' e,(Instr.findAsking kt K ents i).run P w = .ok (some (i+j,V')) w∧ents[j]?=some e∧(∀ n,Instr.sameBits n e.key K=true)∧j<es.length∧m=es.set j (.ptr (some p),v))
 | [],ents,i,m,hE,hg=>by
  simp only[mapPut,Option.some.injEq]at hg
  have:ents=[]:=List.eq_nil_of_length_eq_zero hE.1
  subst this
  exact .inl ⟨rfl,hg.symm⟩
 | (j,u)::es,ents,i,m,hE,hg=>by
  obtain⟨e,l,rfl,h1,h2,h3⟩:=hE.uncons
  simp only[mapPut]at hg
  cases hc:keyCmp (.ptr (some p)) j with
  | none=>rw[hc]at hg;simp at hg
  | some b=>
   rw[hc]at hg
   obtain⟨q,rfl,hb⟩:=ptr_cmp hc
   obtain⟨hq,hj⟩:=ptr_equal I hd hi hs hK h1
   rw[←hb]at hq hj
   cases b with
   | true=>
    simp only[Option.some.injEq]at hg
    refine .inr ⟨0,e.val,e,by simp[Instr.findAsking,hq],rfl,fun n => ?_,by simp,by simp[←hg]⟩
    rw[hj rfl]
    cases hK
    cases n<;>simp[Instr.sameBits]
   | false=>
    simp only at hg
    cases hp2:mapPut (.ptr (some p)) v es with
    | none=>rw[hp2]at hg;simp at hg
    | some m'=>
     rw[hp2]at hg
     simp only[Option.some.injEq]at hg
     rcases findAsk_put I hd hi hs hK hV (i+1) h3 hp2 with ⟨h4,h5⟩|⟨j',V',e',h4,h5,h6,h7,h8⟩
     ·exact .inl ⟨by simp[Instr.findAsking,hq,h4],by rw[←hg,h5];rfl⟩
     ·exact .inr ⟨j'+1,V',e',by simp only[Instr.findAsking,Sem.run_bind,hq,Result.andThen_ok,Bool.false_eq_true,if_false,h4,show i+1+j'=i+(j'+1) by omega],by simpa using h5,h6,by simp only[List.length_cons];omega,by rw[←hg,h8];rfl⟩
theorem findNow_ptr {e:Nat} {p:Nat × Nat} {K:Value} (hK:VR G w K (.ptr (some p))) (ents:List MapEntry):Instr.findNow (.pointer e) K ents 0=none∨ents=[]:=by
 cases ents with
 | nil=>exact .inr rfl
 | cons a l=>exact .inl (by cases hK;simp[Instr.findNow,Instr.sameNow])
theorem findKey_get (I:Inv G w h) {kt:Nat} {d:TypeDesc} (hd:P.underlying kt=some d) {key:AV} (hk:KindD P d key) {K:Value} (hK:VR G w K key) {es:List (AV × AV)} {ents:List MapEntry} {r:Option AV} (hE:EntR G w ents es) (hg:mapGet key es=some r) :
  (r=none∧(Instr.findKey kt K ents).run P w = .ok none w)∨(∃ j V v,r=some v∧(Instr.findKey kt K ents).run P w = .ok (some (j,V)) w∧VR G w V v):=by
 cases hp:plainKey d with
 | true=>
  rcases findNow_get hp hk hK 0 hE hg with ⟨h4,h5⟩|⟨j,V,v,h4,h5,h6⟩
  ·exact .inl ⟨h4,by simp[Instr.findKey,bL hd,h5]⟩
  ·exact .inr ⟨0+j,V,v,h4,by simp only[Instr.findKey,Sem.run_bind,bL hd,Result.andThen_ok,h5,Sem.run_pure],h6⟩
 | false=>
  cases d<;>simp[plainKey]at hp
  rename_i e
  unfold KindD at hk
  split at hk
  ·rename_i e';cases e'
  ·rename_i e';cases e'
  ·rename_i e2 p e'
   cases e'
   obtain⟨inf,hi,hs⟩:=hk
   rcases findAsk_get I hd hi hs hK 0 hE hg with ⟨h4,h5⟩|⟨j,V,v,h4,h5,h6⟩
   ·refine .inl ⟨h4,?_⟩
    rcases findNow_ptr (e:=e) hK ents with h7|rfl
    ·simp[Instr.findKey,bL hd,h7,h5]
    ·simp[Instr.findKey,bL hd,Instr.findNow]
   ·refine .inr ⟨0+j,V,v,h4,?_,h6⟩
    rcases findNow_ptr (e:=e) hK ents with h7|rfl
    ·simp only[Instr.findKey,Sem.run_bind,bL hd,Result.andThen_ok,h7,h5]
    ·simp[Instr.findAsking]at h5
  ·exact hk.elim
theorem findKey_put (I:Inv G w h) {kt:Nat} {d:TypeDesc} (hd:P.underlying kt=some d) {key v:AV} (hk:KindD P d key) {K V:Value} (hK:VR G w K key) (hV:VR G w V v) {es:List (AV × AV)} {ents:List MapEntry} {m:List (AV × AV)} (hE:EntR G w ents es) (hg:mapPut key v es=some m) :
  ((Instr.findKey kt K ents).run P w = .ok none w∧m=es++[(key,v)]) ∨
  (∃ j V' e,(Instr.findKey kt K ents).run P w = .ok (some (j,V')) w∧ents[j]?=some e∧(∀ n,Instr.sameBits n e.key K=true)∧j<es.length∧m=es.set j (key,v)):=by
 cases hp:plainKey d with
 | true=>
  rcases findNow_put hp hk hK hV 0 hE hg with ⟨h4,h5⟩|⟨j,V',e,h4,h5,h6⟩
  ·exact .inl ⟨by simp[Instr.findKey,bL hd,h4],h5⟩
  ·refine .inr ⟨j,V',e,?_,h5,h6⟩
   simp only[Instr.findKey,Sem.run_bind,bL hd,Result.andThen_ok,h4,Sem.run_pure,Nat.zero_add]
 | false=>
  cases d<;>simp[plainKey]at hp
  rename_i e
  unfold KindD at hk
  split at hk
  ·rename_i e';cases e'
  ·rename_i e';cases e'
  ·rename_i e2 p e'
   cases e'
   obtain⟨inf,hi,hs⟩:=hk
   rcases findAsk_put I hd hi hs hK hV 0 hE hg with ⟨h4,h5⟩|⟨j,V',e3,h4,h5,h6⟩
   ·refine .inl ⟨?_,h5⟩
    rcases findNow_ptr (e:=e) hK ents with h7|rfl
    ·simp[Instr.findKey,bL hd,h7,h4]
    ·simp[Instr.findKey,bL hd,Instr.findNow]
   ·refine .inr ⟨j,V',e3,?_,h5,h6⟩
    rcases findNow_ptr (e:=e) hK ents with h7|rfl
    ·simp only[Instr.findKey,Sem.run_bind,bL hd,Result.andThen_ok,h7,h4,Nat.zero_add]
    ·simp at h5
  ·exact hk.elim
theorem evMin_some {mx:Bool} {vs:Option (List AV)} {v:AV} (h:eI mx vs=some v):∃ k x j y,vs=some [.int k x,.int j y]∧bK k j=true∧v = .int k (bif (bif mx then ltI x y else ltI y x)then y else x):=by
 unfold eI at h
 split at h
 ·rename_i k x j y
  cases hk:bK k j with
  | false=>rw[hk]at h;simp at h
  | true=>
   rw[hk]at h
   simp only[cond_true,Option.some.injEq]at h
   exact⟨k,x,j,y,rfl,hk,h.symm⟩
 ·simp at h
theorem two_ints {tm:Tm} {ρ:Operand→Value} {args:Array Operand} {k j:IntKind} {x y:Int} (hvs:aH tm args.toList=some [.int k x,.int j y]) (hk:bK k j=true) (hv:∀ y∈args.toList,∀ u,val tm y=some u→VR G w (ρ y) u) :
  args.map ρ = #[.int k x,.int k y]∧j=k:=by
 have hA:=allVals_VRs (G:=G) (w:=w) (ρ:=ρ) hvs hv
 obtain⟨X,A',hA1,hX,hA2⟩:=hA.uncons
 obtain⟨Y,A2,rfl,hY,hA3⟩:=hA2.uncons
 have hA4:A2=[]:=List.eq_nil_of_length_eq_zero (by rw[hA3.1];rfl)
 subst hA4
 have e:j=k:=by cases k<;>cases j<;>first|rfl|(simp[bK]at hk)
 subst e
 cases hX
 cases hY
 refine⟨?_,rfl⟩
 apply Array.ext'
 simpa using hA1
theorem read_sim {ty:Nat→Option TyI} (hT:TyOk P ty) (I:Inv G w h) {o:Oper} {tm:Tm} {a:Act} (hv:∀ x∈o.op.operands,∀ u,val tm x=some u→VR G w (a.eval x) u)
  {v:AV} (he:aQ ty tm h o.op=some v):∃ V,(execOp a.eval o).run P w = .ok (.value V) w∧VR G w V v:=by
 have lift:∀ {V:Value} {s:Sem Value},s.run P w = .ok V w→(do pure (Next.value (←s)):Sem Next).run P w = .ok (.value V) w:=by
  intro V s hs
  simp only[Sem.run_bind,hs,Result.andThen_ok,Sem.run_pure]
 unfold execOp
 cases ho:o.op<;>rw[ho]at hv he<;>simp only[aQ,reduceCtorEq]at he<;>simp only[]
 case load t x=>
  split at he
  ·rename_i i cs ht hx
   obtain⟨inf,d,h1,h2,_,h3,_,_,h4⟩:=bM (hT _ _ ht)
   have hX:=hv x (by simp[Op.operands]) _ hx
   generalize a.eval x=z at *
   cases hX
   rename_i b off f k1 k2
   obtain⟨V,g1,g2⟩:=load_sim h1 h2 b off cs f (fun j hj=>(k1 j hj).1) k2 (by rw[←h3,←h4];exact he)
   exact⟨V,lift g1,g2⟩
  ·rename_i i id off ht hx
   obtain⟨inf,d,h1,h2,_,h3,_,_,h4⟩:=bM (hT _ _ ht)
   have hX:=hv x (by simp[Op.operands]) _ hx
   generalize a.eval x=z at *
   cases hX
   rename_i b hr
   split at he
   ·rename_i cs hcs
    obtain⟨V,g1,g2⟩:=load_ptr I h1 h2 hr hcs (by rw[←h3,←h4];exact he)
    exact⟨V,lift g1,g2⟩
   ·simp at he
  ·rename_i i id len off ht hx
   obtain⟨inf,d,h1,h2,_,h3,_,_,h4⟩:=bM (hT _ _ ht)
   have hX:=hv x (by simp[Op.operands]) _ hx
   generalize a.eval x=z at *
   cases hX
   rename_i b hr
   split at he
   ·rename_i n e s cs hcs
    cases hc:Nat.beq n len with
    | false=>rw[hc]at he;simp at he
    | true=>
     rw[hc]at he
     simp only[cond_true]at he
     have:=bV.1 hc
     subst this
     obtain⟨V,g1,g2⟩:=load_row I h1 h2 hr hcs (by rw[←h3,←h4];exact he)
     exact⟨V,lift g1,g2⟩
   ·simp at he
  ·simp at he
 case lookup t m k ok=>
  split at he
  ·rename_i kt et s1 b1 z1 a1 f1 ht
   split at he
   ·rename_i ik k2 s2 b2 z a2 f2 key hkt het hkv
    obtain⟨_,dm,_,um,kkm,_⟩:=bM (hT _ _ ht)
    have:=kind_map kkm
    subst this
    obtain⟨_,dk,_,uk,kkk,_⟩:=bM (hT _ _ hkt)
    cases hko:keyOk ty ik.kind key with
    | false=>rw[hko]at he;simp at he
    | true=>
     rw[hko]at he
     simp only[cond_true]at he
     have hKD:KindD P dk key:=keyOk_spec (P:=P) hT (by rw[←kkk];exact hko)
     have hK:=hv k (by simp[Op.operands]) _ hkv
     obtain⟨inf,Z,hz1,hz2,hz3⟩:=zero_VR (G:=G) (w:=w) hT het rfl
     have hz4:=run_zero (P:=P) (w:=w) hz1 hz2
     have fin:∀ {V:Value} {x:AV} {b:Bool},VR G w V x→VR G w (if ok then .tuple #[V,.bool b]else V) (bif ok then .tup [x,.bool b]else x):=by
      intro V x b hV
      cases ok with
      | false=>exact hV
      | true=>
       refine .tup #[V,.bool b] [x,.bool b] rfl fun i u y hu hy => ?_
       match i with
       | 0=>simp at hu hy;subst hu;subst hy;exact hV
       | 1=>simp at hu hy;subst hu;subst hy;exact .bool b
       | i+2=>simp at hu
     split at he
     ·rename_i hm
      simp only[Option.some.injEq]at he
      subst he
      have hM:=hv m (by simp[Op.operands]) _ hm
      generalize a.eval m=zm at *
      cases hM
      refine⟨_,lift ?_,fin hz3⟩
      unfold Instr.lookup
      simp only[Sem.run_bind,bL um,Result.andThen_ok,Sem.run_pure,run_checkKey uk hK hKD,Instr.findKey,bL uk,Instr.findNow,hz4]
     ·rename_i id hm
      have hM:=hv m (by simp[Op.operands]) _ hm
      generalize a.eval m=zm at *
      cases hM
      rename_i b hr
      split at he
      ·rename_i es hes
       obtain⟨ents,clk,hb,hl,hR⟩:=I.mapAt hr hes
       have hE:EntR G w ents.toList es:=⟨by simpa using hl,fun i e k x h1 h2=>hR i e k x (by simpa using h1) h2⟩
       have hget:(getObj b).run P w = .ok (.map ents clk) w:=by simp[getObj,Sem.run,hb]
       cases hg:mapGet key es with
       | none=>rw[hg]at he;simp at he
       | some r=>
        rw[hg]at he
        rcases findKey_get I uk hKD hK hE hg with ⟨rfl,h5⟩|⟨j',V,v',rfl,h5,h6⟩
        ·simp only[Option.some.injEq]at he
         subst he
         refine⟨_,lift ?_,fin hz3⟩
         unfold Instr.lookup
         simp only[Sem.run_bind,bL um,Result.andThen_ok,Sem.run_pure,hget,run_checkKey uk hK hKD,h5,hz4]
        ·simp only[Option.some.injEq]at he
         subst he
         refine⟨_,lift ?_,fin h6⟩
         unfold Instr.lookup
         simp only[Sem.run_bind,bL um,Result.andThen_ok,Sem.run_pure,hget,run_checkKey uk hK hKD,h5]
      ·simp at he
     ·simp at he
   ·simp at he
  ·simp at he
 case call c=>
  obtain⟨cal,args,ats⟩:=c
  simp only at he
  split at he
  ·split at he
   ·rename_i t x hat hvs
    have hA:=allVals_VRs (G:=G) (w:=w) (ρ:=a.eval) hvs fun y hy u hu=>hv y (by simp[Op.operands,Call.operands]at hy ⊢;exact hy) u hu
    obtain⟨X,A',hA1,hX,hA2⟩:=hA.uncons
    have hA3:A'=[]:=List.eq_nil_of_length_eq_zero (by rw[hA2.1];rfl)
    subst hA3
    have hargs:args.map a.eval = #[X]:=by
     apply Array.ext'
     simpa using hA1
    have hats:ats = #[t]:=by apply Array.ext';simpa using hat
    subst hats
    cases hty:ty t with
    | none=>rw[hty]at he;simp at he
    | some i=>
     rw[hty]at he
     simp only at he
     obtain⟨_,d1,_,u1,kk1,_⟩:=bM (hT _ _ hty)
     have run:∀ {V:Value},(Builtin.len_ #[t] o.type #[X]).run P w = .ok V w→(do let d ←resolve a.eval { callee := .builtin .len,args:=args,argTypes := #[t] } o.type;invoke d.target d.args:Sem Next).run P w = .ok (.value V) w:=by
      intro V hV
      simp only[resolve,Sem.run_bind,Sem.run_pure,Result.andThen_ok,invoke,builtin,hargs,hV]
     split at he
     ·rename_i s hk
      rw[hk]at kk1
      have:=kind_str kk1
      subst this
      simp only[Option.some.injEq]at he
      subst he
      cases hX
      rename_i s'
      refine⟨.int .i64 s'.size,run ?_,by rw[fP];exact .int _ _⟩
      simp[Builtin.len_,bL u1,goInt]
     ·rename_i e o' els hk
      rw[hk]at kk1
      have:=dP kk1
      subst this
      simp only[Option.some.injEq]at he
      subst he
      refine⟨.int .i64 els.length,run ?_,.int _ _⟩
      cases hX with
      | sl0=>simp[Builtin.len_,bL u1,goInt]
      | sl b off len cap s _ _ f hl hcap hs h1 h2 ho2=>simp[Builtin.len_,bL u1,goInt,hl]
     ·rename_i e id len own hk
      rw[hk]at kk1
      have:=dP kk1
      subst this
      simp only[Option.some.injEq]at he
      subst he
      refine⟨.int .i64 len,run ?_,.int _ _⟩
      cases hX with
      | rs=>simp[Builtin.len_,bL u1,goInt]
     ·rename_i e id len k hk
      rw[hk]at kk1
      have:=dP kk1
      subst this
      simp only[Option.some.injEq]at he
      subst he
      refine⟨.int .i64 k,run ?_,.int _ _⟩
      cases hX with
      | rv=>simp[Builtin.len_,bL u1,goInt]
     ·rename_i k2 e2 hk
      rw[hk]at kk1
      have:=kind_map kk1
      subst this
      simp only[Option.some.injEq]at he
      subst he
      cases hX
      exact⟨.int .i64 0,run (by simp[Builtin.len_,bL u1,goInt]),.int _ _⟩
     ·rename_i k2 e2 r hk
      rw[hk]at kk1
      have:=kind_map kk1
      subst this
      split at he
      ·rename_i es hes
       simp only[Option.some.injEq]at he
       subst he
       cases hX
       rename_i b hr
       obtain⟨ents,clk,hb,hl,hR⟩:=I.mapAt hr hes
       have hget:(getObj b).run P w = .ok (.map ents clk) w:=by simp[getObj,Sem.run,hb]
       refine⟨.int .i64 es.length,run ?_,.int _ _⟩
       simp[Builtin.len_,bL u1,goInt,hget,hl]
      ·simp at he
     ·simp at he
   ·simp at he
  ·obtain⟨k,x,j,y,hvs,hk,rfl⟩:=evMin_some he
   obtain⟨hargs,rfl⟩:=two_ints (ρ:=a.eval) (G:=G) (w:=w) hvs hk fun y hy u hu=>hv y (by simp[Op.operands,Call.operands]at hy ⊢;exact hy) u hu
   refine⟨_,?_,.int _ _⟩
   have hV:(Builtin.min_ ats o.type #[.int j x,.int j y]).run P w = .ok (.int j (bif (bif false then ltI x y else ltI y x)then y else x)) w:=by
    simp only[Builtin.min_,Builtin.min2,List.foldlM_cons,List.foldlM_nil,Sem.run_bind,Sem.run_pure,Result.andThen_ok,cond_false,dI]
    by_cases hlt:y<x<;>simp[hlt]
   simp only[resolve,Sem.run_bind,Sem.run_pure,Result.andThen_ok,invoke,builtin,hargs,hV]
  ·obtain⟨k,x,j,y,hvs,hk,rfl⟩:=evMin_some he
   obtain⟨hargs,rfl⟩:=two_ints (ρ:=a.eval) (G:=G) (w:=w) hvs hk fun y hy u hu=>hv y (by simp[Op.operands,Call.operands]at hy ⊢;exact hy) u hu
   refine⟨_,?_,.int _ _⟩
   have hV:(Builtin.max_ ats o.type #[.int j x,.int j y]).run P w = .ok (.int j (bif (bif true then ltI x y else ltI y x)then y else x)) w:=by
    simp only[Builtin.max_,Builtin.max2,List.foldlM_cons,List.foldlM_nil,Sem.run_bind,Sem.run_pure,Result.andThen_ok,cond_true,dI]
    by_cases hlt:x<y<;>simp[hlt]
   simp only[resolve,Sem.run_bind,Sem.run_pure,Result.andThen_ok,invoke,builtin,hargs,hV]
  ·simp at he
end
end Go.Ev
