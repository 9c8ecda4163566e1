/- Free names: what the program finds is what the reference finds. -/
import Derived.Test.YtogjplcnmibnlaaGreatDoorCTK
import Derived.Test.YtogjplcnmibnlaaGreatDoorCTP
set_option autoImplicit false
set_option maxRecDepth 100000
set_option linter.unusedSimpArgs false
set_option linter.unusedVariables false
namespace Go.Proofs.YtogjplcnmibnlaaGreatDoor.Tr
open Go.Proofs.YtogjplcnmibnlaaGreatDoor.Env Go.Ev Go.Ev.Nd
theorem nl_irr:∀ a:List Nat,cO a a=false
 | []=>rfl
 | a::l=>by simp only[cO,nl_irr l,Bool.and_false,Bool.or_false];exact Bool.eq_false_iff.2 fun h=>by rw[Nat.blt_eq]at h;omega
theorem nl_tr:∀ {a b c:List Nat},cO a b=true→cO b c=true→cO a c=true
 | _,[],_,h,_=>by cases ‹List Nat›<;>simp[cO]at h
 | _,_::_,[],_,h=>by simp[cO]at h
 | [],_::_,_::_,_,_=>rfl
 | a::x,b::y,c::z,h1,h2=>by
  simp only[cO,Bool.or_eq_true,Bool.and_eq_true,Nat.blt_eq,Nat.beq_eq]at h1 h2 ⊢
  rcases h1 with h1|⟨e1,h1⟩<;>rcases h2 with h2|⟨e2,h2⟩
  ·exact .inl (by omega)
  ·exact .inl (by omega)
  ·exact .inl (by omega)
  ·exact .inr ⟨by omega,nl_tr h1 h2⟩
theorem nl_as {a b:List Nat} (h:cO a b=true):cO b a=false:=by
 cases hb:cO b a with
 | false=>rfl
 | true=>have:=nl_tr h hb;rw[nl_irr]at this;cases this
theorem nl_tot:∀ {a b:List Nat},cO a b=false→cO b a=false→a=b
 | [],[],_,_=>rfl
 | [],_::_,h,_=>by simp[cO]at h
 | _::_,[],_,h=>by simp[cO]at h
 | a::x,b::y,h1,h2=>by
  simp only[cO,Bool.or_eq_false_iff,Bool.and_eq_false_iff]at h1 h2
  have e1:¬ a<b:=fun h=>by have:=h1.1;rw[show Nat.blt a b=true from by rw[Nat.blt_eq];exact h]at this;cases this
  have e2:¬ b<a:=fun h=>by have:=h2.1;rw[show Nat.blt b a=true from by rw[Nat.blt_eq];exact h]at this;cases this
  have e:a=b:=by omega
  subst e
  have hb:Nat.beq a a=true:=by rw[Nat.beq_eq]
  rcases h1.2 with h|h
  ·rw[hb]at h;cases h
  ·rcases h2.2 with k|k
   ·rw[hb]at k;cases k
   ·rw[nl_tot h k]
def leS (x y:Str):Prop:=cO y.s x.s=false
theorem leS_an (a b:Str) (h1:leS a b) (h2:leS b a):a=b:=by
 obtain⟨a⟩:=a
 obtain⟨b⟩:=b
 exact congrArg Str.mk (nl_tot h2 h1)
def Rise (l:List Str):Prop:=l.Pairwise fun x y=>cO x.s y.s=true
theorem Rise.strict {l:List Str} (h:Rise l):l.Pairwise (fun x y=>leS x y∧x≠y):=List.Pairwise.imp (fun {x y} h=>⟨nl_as h,fun e=>by rw[e,nl_irr]at h;cases h⟩) h
theorem lt_iff:∀ a b:List UInt8,cO (ofB a) (ofB b)=true↔a<b
 | [],[]=>by simp[ofB,cO]
 | [],_::_=>by simp[ofB,cO]
 | _::_,[]=>by simp[ofB,cO]
 | a::x,b::y=>by
  have:=lt_iff x y
  unfold ofB at this
  rw[List.cons_lt_cons_iff,←this]
  simp only[ofB,List.map_cons,cO,Bool.or_eq_true,Bool.and_eq_true,Nat.blt_eq,Nat.beq_eq,UInt8.lt_iff_toNat_lt]
  rw[UInt8.toNat_inj]
theorem le_iff (a b:List UInt8):cO (ofB b) (ofB a)=false↔a≤b:=by
 rw[←List.not_lt,←lt_iff]
 cases cO (ofB b) (ofB a)<;>simp
theorem le_rf (a:List UInt8):a≤a:=(le_iff a a).1 (nl_irr _)
theorem le_an (a b:List UInt8) (h1:a≤b) (h2:b≤a):a=b:=by
 have:=nl_tot ((le_iff _ _).2 h2) ((le_iff _ _).2 h1)
 rw[←toB_ofB a,←toB_ofB b,this]
theorem le_tr (a b c:List UInt8) (h1:a≤b) (h2:b≤c):a≤c:=by
 rw[←le_iff]at h1 h2 ⊢
 cases hb:cO (ofB c) (ofB a)with
 | false=>rfl
 | true=>
  cases h3:cO (ofB a) (ofB b)with
  | true=>rw[nl_tr hb h3]at h2;cases h2
  | false=>rw[nl_tot h3 h1]at hb;rw[hb]at h2;cases h2
theorem le_tot (a b:List UInt8):a≤b∨b≤a:=by
 rw[←le_iff,←le_iff]
 cases hb:cO (ofB b) (ofB a)with
 | false=>exact .inl rfl
 | true=>exact .inr (nl_as hb)
theorem sortB_sorted (zs:List (List UInt8)):(sortB zs).Pairwise fun x y=>x≤y:=by
 have:=List.pairwise_mergeSort (le:=fun x y:List UInt8=>decide (x≤y)) (fun a b c h1 h2=>by simp only[decide_eq_true_eq]at *;exact le_tr a b c h1 h2) (fun a b=>by simp only[Bool.or_eq_true,decide_eq_true_eq];exact le_tot a b) zs
 exact List.Pairwise.imp (fun h=>by simpa using h) this
theorem sortS_strict (L:List Str):(sortS L).Pairwise fun x y=>leS x y∧x≠y:=by
 have h:=(compact_sorted le_rf le_tr le_an (sortB_sorted (L.map fun t=>toB t.s))).1
 unfold sortS
 rw[List.pairwise_map]
 refine List.Pairwise.imp (fun {x y} h=>⟨?_,fun e=>h.2 ?_⟩) h
 ·exact(le_iff _ _).2 h.1
 ·have:=congrArg Str.s e
  simp only at this
  rw[←toB_ofB x,←toB_ofB y,this]
theorem sortS_mem {L:List Str} (h:okB L) (x:Str):x∈sortS L↔x∈L:=by
 have hc:=(compact_sorted le_rf le_tr le_an (sortB_sorted (L.map fun t=>toB t.s))).2
 unfold sortS
 simp only[List.mem_map,hc,List.mem_mergeSort]
 constructor
 ·rintro⟨b,⟨t,ht,rfl⟩,rfl⟩
  rw[ofB_toB (h t ht)]
  exact ht
 ·intro hx
  exact⟨_,⟨x,hx,rfl⟩,by rw[ofB_toB (h x hx)]⟩
theorem insS_mem (out:List Str) (p:List Nat) (x:Str):x∈insS out p↔x∈out∨x=⟨p⟩:=by
 have h:=List.takeWhile_append_dropWhile (p:=fun y:Str=>cO y.s p) (l:=out)
 unfold insS
 simp only[List.mem_append,List.mem_cons]
 constructor
 ·rintro(h1|rfl|h1)
  ·exact .inl (by rw[←h];exact List.mem_append_left _ h1)
  ·exact .inr rfl
  ·exact .inl (by rw[←h];exact List.mem_append_right _ h1)
 ·rintro(h1|rfl)
  ·rw[←h]at h1
   rcases List.mem_append.1 h1 with h1|h1
   ·exact .inl h1
   ·exact .inr (.inr h1)
  ·exact .inr (.inl rfl)
theorem insS_rise {p:List Nat}:∀ {out:List Str},Rise out→(⟨p⟩:Str) ∉ out→Rise (insS out p)
 | [],_,_=>by simp[insS,Rise]
 | y::l,h,hp=>by
  unfold Rise at h
  rw[List.pairwise_cons]at h
  cases hb:cO y.s p with
  | true=>
   have e:insS (y::l) p=y::insS l p:=by simp[insS,hb]
   rw[e]
   have:=insS_rise h.2 (fun hm=>hp (List.mem_cons_of_mem _ hm))
   refine List.pairwise_cons.2 ⟨fun x hx => ?_,this⟩
   rcases(insS_mem l p x).1 hx with hx|rfl
   ·exact h.1 x hx
   ·exact hb
  | false=>
   have e:insS (y::l) p=⟨p⟩::y::l:=by simp[insS,hb]
   rw[e]
   have hy:cO p y.s=true:=by
    cases h3:cO p y.s with
    | true=>rfl
    | false=>
     refine absurd (List.mem_cons_self ..) (?_:¬ y∈y::l)
     have:y=⟨p⟩:=by obtain⟨y⟩:=y;exact congrArg Str.mk (nl_tot hb h3)
     rw[←this]at hp
     exact hp
   refine List.pairwise_cons.2 ⟨fun x hx => ?_,List.pairwise_cons.2 h⟩
   rcases List.mem_cons.1 hx with rfl|hx
   ·exact hy
   ·exact nl_tr hy (h.1 x hx)
theorem has_no {L:List Str} {v:List Nat}:dA L v=false↔(⟨v⟩:Str) ∉ L:=by
 rw[←hasS_iff]
 cases dA L v<;>simp
mutual
theorem freeR_rise:∀ (t:Nd) (bound out:List Str),Rise out→Rise (freeR t bound out)
 | .mk o p q n a ks,bound,out,h=>by
  simp only[freeR]
  refine freeRL_rise o p q 0 ks bound _ ?_
  cases hb:(aB o varS&&(!dA bound p && !dA out p))with
  | false=>exact h
  | true=>
   simp only[Bool.and_eq_true,Bool.not_eq_true']at hb
   exact insS_rise h (has_no.1 hb.2.2)
theorem freeRL_rise (o p q:List Nat):∀ (i:Nat) (l:List Nd) (bound out:List Str),Rise out→Rise (freeRL o p q i l bound out)
 | _,[],_,_,h=>h
 | i,t::l,bound,out,h=>by
  simp only[freeRL]
  exact freeRL_rise o p q (i+1) l bound _ (freeR_rise t _ _ h)
end
theorem bind_eq {o:List Nat} (p q:List Nat) {i:Nat} (h:aB o recS=true→i<2):bindR o p q ↑i=bindT o p q ↑i:=by
 unfold bindR bindT
 cases hr:aB o recS with
 | false=>cases aB o funS<;>cases aB o letS<;>cases aB o tryS<;>cases aB o dY<;>cases aE (↑i:Int) 1<;>cases aE (↑i:Int) 2<;>rfl
 | true=>
  have:=Go.Ev.cU.1 hr
  subst this
  have hi:=h hr
  match i,hi with
  | 0,_=>rfl
  | 1,_=>rfl
theorem kids_of {o p q:List Nat} {n a:Int} {ks:List Nd} (h:eachF (.mk o p q n a ks)=true):dS o=↑ks.length∧eachL ks=true:=by
 simp only[eachF,Bool.and_eq_true]at h
 exact⟨dN.1 h.1,h.2.2⟩
mutual
theorem freeR_mem:∀ (t:Nd) (bound out:List Str),eachF t=true→fit t→∀ x,x∈freeR t bound out↔x∈out∨(x∈dM t∧x ∉ bound)
 | .mk o p q n a ks,bound,out,he,hf,x=>by
  obtain⟨hk,hl⟩:=kids_of he
  simp only[freeR,dM]
  have hb:=freeT_bytes (.mk o p q n a ks) hf
  simp only[fit]at hf
  cases hv:aB o varS with
  | true=>
   have:=Go.Ev.cU.1 hv
   subst this
   have:ks=[]:=by
    rw[show dS varS=0 from rfl]at hk
    cases ks with
    | nil=>rfl
    | cons t l=>simp at hk;omega
   subst this
   simp only[freeRL,cond_true,Bool.true_and,List.mem_singleton]
   cases h1:dA bound p with
   | true=>
    have:=hasS_iff.1 h1
    simp only[Bool.not_true,Bool.false_and,cond_false]
    constructor
    ·exact .inl
    ·rintro(h|⟨rfl,h⟩)
     ·exact h
     ·exact absurd this h
   | false=>
    have hnb:=has_no.1 h1
    cases h2:dA out p with
    | true=>
     have:=hasS_iff.1 h2
     simp only[Bool.not_true,Bool.and_false,cond_false]
     constructor
     ·exact .inl
     ·rintro(h|⟨rfl,h⟩)
      ·exact h
      ·exact this
    | false=>
     simp only[Bool.not_false,Bool.and_self,cond_true,insS_mem]
     constructor
     ·rintro(h|rfl)
      ·exact .inl h
      ·exact .inr ⟨rfl,hnb⟩
     ·rintro(h|⟨rfl,h⟩)
      ·exact .inl h
      ·exact .inr rfl
  | false=>
   simp only[Bool.false_and,cond_false]
   have hok:okB (eM o p q 0 ks):=freeTL_bytes o p q 0 ks hf.2.2.2.2.2.2
   rw[sortS_mem hok]
   refine freeRL_mem o p q 0 ks bound out hl hf.2.2.2.2.2.2 (fun hr => ?_) x
   have:=Go.Ev.cU.1 hr
   subst this
   rw[show dS recS=2 from rfl]at hk
   omega
theorem freeRL_mem (o p q:List Nat):∀ (i:Nat) (l:List Nd) (bound out:List Str),eachL l=true→fits l→(aB o recS=true→i+l.length≤2)→∀ x,x∈freeRL o p q i l bound out↔x∈out∨(x∈eM o p q i l∧x ∉ bound)
 | i,[],bound,out,_,_,_,x=>by simp[freeRL,eM]
 | i,t::l,bound,out,he,hf,hr,x=>by
  simp only[eachL,Bool.and_eq_true]at he
  simp only[fits]at hf
  simp only[List.length_cons]at hr
  simp only[freeRL,eM]
  rw[freeRL_mem o p q (i+1) l bound _ he.2 hf.2 (fun h=>by have:=hr h;omega) x,freeR_mem t _ out he.1 hf.1 x,bind_eq p q (fun h=>by have:=hr h;omega)]
  simp only[List.mem_append,notB,List.mem_filter,Bool.not_eq_true',not_or]
  rw[show dA (bindT o p q ↑i) x.s=false↔x ∉ bindT o p q ↑i from has_no]
  by_cases h1:x∈out<;>by_cases h2:x∈dM t<;>by_cases h3:x∈bound<;>by_cases h4:x∈bindT o p q ↑i<;>by_cases h5:x∈eM o p q (i+1) l<;>simp[h1,h2,h3,h4,h5]
end
theorem freeT_strict (t:Nd):(dM t).Pairwise fun x y=>leS x y∧x≠y:=by
 obtain⟨o,p,q,n,a,ks⟩:=t
 simp only[dM]
 cases aB o varS with
 | true=>simp
 | false=>exact sortS_strict _
theorem free_eq {t:Nd} (he:eachF t=true) (hf:fit t):dM t=freeRF t:=by
 classical
 haveI:Inhabited Str:=⟨⟨[]⟩⟩
 refine strict_eq leS_an (freeT_strict t) (freeR_rise t [] [] .nil).strict fun x => ?_
 unfold freeRF
 rw[freeR_mem t [] [] he hf x]
 simp
end Go.Proofs.YtogjplcnmibnlaaGreatDoor.Tr
namespace Go.Proofs.YtogjplcnmibnlaaGreatDoor.Lx
open Go.Ev Go.Proofs.YtogjplcnmibnlaaGreatDoor.Env
def tokOne (t:AV) (name:List Nat) (k:Int):Bool:=match t with
 | .agg [.int _ x1,.str x2,_,.int _ x4]=>aE x1 k&&(aB x2 name&&aE x4 0)
 | _=>false
def oneL (s name:List Nat) (k:Int):List AV × Option Nat→Bool
 | ([t],none)=>tokOne t name k && !ltI 2 (↑s.length-↑name.length)
 | _=>false
def oneF (s name:List Nat) (k:Int):Bool := !ltI 2000 ↑s.length&&oneL s name k (lx (s.length+1) s 0 [])
def tokFrom (i:Nat) (t:AV):Prop:=∃ (x1:Int) (x2:List Nat) (x3:Int) (x4:Nat),t = .agg [.int .i64 x1,.str x2,.int .i64 x3,.int .i64 ↑x4]∧i≤x4
def tokOf:AV→Option (AV × Nat)
 | .tup [t,.int .i64 (.ofNat n),.bool true]=>some (t,n)
 | _=>none
theorem tokAt_def (s:List Nat) (i:Nat):tokAt s i=tokOf (eW s i):=rfl
theorem tokOf_tok {k:Int} {x:List Nat} {m a j:Int} {b:Bool} {t:AV} {n:Nat} (h:tokOf (.tup [fJ k x m a,.int .i64 j,.bool b])=some (t,n)):t=fJ k x m a:=by
 cases j with
 | negSucc j=>simp[tokOf]at h
 | ofNat j=>
  cases b with
  | false=>simp[tokOf]at h
  | true=>simp only[tokOf,Option.some.injEq,Prod.mk.injEq]at h;exact h.1.symm
theorem tokRes_kind {s:List Nat} {i c:Nat} (hc:s[i]?=some c):∃ (k:Int) (x:List Nat) (m a j:Int) (b:Bool),eW s i = .tup [fJ k x m a,.int .i64 j,.bool b]∧(b=true→a=↑i)∧(dH ↑c=false→k≠1):=by
 unfold eW
 rw[hc]
 simp only
 cases h1:dH ↑c with
 | true=>exact⟨_,_,_,_,_,_,rfl,fun _=>rfl,fun e=>by cases e⟩
 | false=>
  cases h2:cV ↑c with
  | true=>
   simp only[cond_true,cond_false]
   unfold numRes
   cases numBad s i (cnt cV (s.drop i))
   ·exact⟨_,_,_,_,_,_,rfl,fun _=>rfl,fun _=>by decide⟩
   ·exact⟨_,_,_,_,_,_,rfl,fun _=>rfl,fun _=>by decide⟩
  | false=>
   cases h3:aE ↑c 34 with
   | true=>exact⟨_,_,_,_,_,_,rfl,fun _=>rfl,fun _=>by decide⟩
   | false=>
    simp only[cond_false]
    unfold signRes
    cases hf:fQ (s.drop i) fB with
    | none=>exact⟨_,_,_,_,_,_,rfl,fun e=>by simp at e,fun _=>by decide⟩
    | some w=>exact⟨_,_,_,_,_,_,rfl,fun _=>rfl,fun _=>by decide⟩
theorem tokAt_get {s:List Nat} {i n:Nat} {t:AV} (h:tokAt s i=some (t,n)):∃ (c:Nat) (k:Int) (x:List Nat) (m:Int),s[i]?=some c∧t=fJ k x m ↑i∧(dH ↑c=false→k≠1):=by
 rw[tokAt_def]at h
 cases hc:s[i]? with
 | none=>unfold eW at h;rw[hc]at h;simp[tokOf]at h
 | some c=>
  obtain⟨k,x,m,a,j,b,e,ha,hk⟩:=tokRes_kind hc
  rw[e]at h
  have ht:=tokOf_tok h
  cases b with
  | false=>cases j<;>simp[tokOf]at h
  | true=>exact⟨c,k,x,m,rfl,by rw[ht,ha rfl],hk⟩
theorem tokAt_at {s:List Nat} {i n:Nat} {t:AV} (h:tokAt s i=some (t,n)):tokFrom i t:=by
 obtain⟨c,k,x,m,_,rfl,_⟩:=tokAt_get h
 exact⟨_,_,_,_,rfl,Nat.le_refl _⟩
theorem lx_ext {s:List Nat}:∀ (f i:Nat) (l l':List AV),lx f s i l=(l',none)→∃ r,l'=l++r∧∀ t∈r,tokFrom i t
 | 0,i,l,l',h=>by simp only[lx,Prod.mk.injEq]at h;exact⟨[],by simp[h.1],by simp⟩
 | f+1,i,l,l',h=>by
  simp only[lx]at h
  cases hc:s[i]? with
  | none=>rw[hc]at h;simp only[Prod.mk.injEq]at h;exact⟨[],by simp[h.1],by simp⟩
  | some c=>
   rw[hc]at h
   simp only at h
   cases hb:isBlank c with
   | true=>
    rw[hb]at h
    obtain⟨r,h1,h2⟩:=lx_ext f _ _ _ h
    refine⟨r,h1,fun t ht => ?_⟩
    obtain⟨x1,x2,x3,x4,e,hx⟩:=h2 t ht
    exact⟨x1,x2,x3,x4,e,by omega⟩
   | false=>
    rw[hb]at h
    simp only[cond_false]at h
    cases ht:tokAt s i with
    | none=>rw[ht]at h;simp at h
    | some p=>
     obtain⟨t,n⟩:=p
     rw[ht]at h
     obtain⟨r,h1,h2⟩:=lx_ext f _ _ _ h
     refine⟨t::r,by simp[h1],fun u hu => ?_⟩
     rcases List.mem_cons.1 hu with rfl|hu
     ·exact tokAt_at ht
     ·obtain⟨x1,x2,x3,x4,e,hx⟩:=h2 u hu
      exact⟨x1,x2,x3,x4,e,by omega⟩
theorem one_first {s name:List Nat} {k:Int} {f n:Nat} {t:AV} (hb:oneL s name k (lx f s n [t])=true):tokOne t name k=true∧ltI 2 (↑s.length-↑name.length)=false:=by
 rcases hq:lx f s n [t]with ⟨l',_|j⟩
 ·obtain⟨r,h1,_⟩:=lx_ext f _ _ _ hq
  rw[hq,h1]at hb
  cases r with
  | nil=>simpa[oneL]using hb
  | cons u r=>simp[oneL]at hb
 ·rw[hq]at hb
  cases l' with
  | nil=>simp[oneL]at hb
  | cons u r=>cases r<;>simp[oneL]at hb
theorem one_end {s name:List Nat} {k:Int} {f:Nat} {t:AV} (hf:0<f):oneL s name k (lx f s s.length [t])=(tokOne t name k && !ltI 2 (↑s.length-↑name.length)):=by
 obtain⟨g,rfl⟩:∃ g,f=g+1:=⟨f-1,by omega⟩
 simp only[lx,List.getElem?_eq_none (Nat.le_refl s.length)]
 rfl
theorem one_later {s name:List Nat} {k:Int} {f i:Nat} (hi:0<i):oneL s name k (lx f s i [])=false:=by
 cases hb:oneL s name k (lx f s i [])with
 | false=>rfl
 | true=>
  exfalso
  rcases hq:lx f s i []with ⟨l',_|j⟩
  ·obtain⟨r,h1,h2⟩:=lx_ext f _ _ _ hq
   rw[hq,h1]at hb
   simp only[List.nil_append]at hb h1
   match r,hb,h2 with
   | [],hb,_=>simp[oneL]at hb
   | [t],hb,h2=>
    obtain⟨x1,x2,x3,x4,rfl,hx⟩:=h2 t (List.mem_singleton.2 rfl)
    simp only[oneL,tokOne,Bool.and_eq_true]at hb
    have:=intBeq_iff'.1 hb.1.2.2
    omega
   | _::_::_,hb,_=>simp[oneL]at hb
  ·rw[hq]at hb
   cases l' with
   | nil=>simp[oneL]at hb
   | cons u r=>cases r<;>simp[oneL]at hb
theorem beqI_no {a b:Int} (h:a≠b):aE a b=false:=by cases hb:aE a b with|false=>rfl|true=>exact absurd (intBeq_iff'.1 hb) h
theorem letter_more {c:Int} (h:dH c=true):dR c=true:=by simp[dR,h]
theorem letter_blank {c:Nat} (h:dH ↑c=true):isBlank c=false:=by
 simp only[dH,Bool.and_eq_true,Bool.not_eq_true',dI]at h
 simp only[decide_eq_false_iff_not]at h
 simp only[isBlank,Bool.or_eq_false_iff]
 exact⟨beqI_no (by omega),beqI_no (by omega),beqI_no (by omega)⟩
theorem one_name (s:List Nat):oneF s s 1=nameF s:=by
 unfold oneF
 cases s with
 | nil=>rfl
 | cons c l=>
  simp only[nameF]
  rw[show lx ((c::l).length+1) (c::l) 0 []=(bif isBlank c then lx (c::l).length (c::l) (0+1) []else match tokAt (c::l) 0 with|some (t,n)=>lx (c::l).length (c::l) (0+n) ([]++[t])|none=>([],some 0)) from rfl]
  cases h1:dH ↑c with
  | true=>
   have hm:=letter_more h1
   rw[letter_blank h1]
   simp only[cond_false,Bool.true_and]
   have htr:eW (c::l) 0=nameRes (c::l) 0:=by unfold eW;simp[h1]
   have hcn:cnt dR (c::l)=1+cnt dR l:=by simp only[cnt,hm,cond_true];omega
   have hta:tokAt (c::l) 0=bif ltI 12 ↑(1+cnt dR l)then none else some (fJ (nameKind ((c::l).take (1+cnt dR l))) ((c::l).take (1+cnt dR l)) 0 0,1+cnt dR l):=by
    unfold tokAt
    rw[htr]
    unfold nameRes
    rw[List.drop_zero,hcn]
    cases ltI 12 ↑(1+cnt dR l)<;>rfl
   rw[hta]
   have hle:=cnt_le dR l
   generalize hn:1+cnt dR l=n at *
   cases h2:ltI 12 ↑n with
   | true=>simp[oneL]
   | false=>
    have h12:n≤12:=by rw[show(12:Int)=((12:Nat):Int) from rfl,eN]at h2;simpa using h2
    simp only[cond_false,List.nil_append,Nat.zero_add,Bool.not_false,Bool.true_and]
    by_cases he:n=(c::l).length
    ·subst he
     have h20:ltI 2000 ↑(c::l).length=false:=by rw[show(2000:Int)=((2000:Nat):Int) from rfl,eN];simp;simp at h12;omega
     rw[h20,one_end (by simp),List.take_length,intBeq_iff'.2 (rfl:(↑(c::l).length:Int)=_)]
     simp only[Int.sub_self,fJ,tokOne,cU.2 (rfl:(c::l)=_),nameKind,hasF_isW,Bool.not_false,Bool.true_and,Bool.and_true]
     cases isW (c::l)<;>rfl
    ·have hl:aE (↑n:Int) ↑(c::l).length=false:=beqI_no (by omega)
     rw[hl,Bool.and_false]
     cases hb:oneL (c::l) (c::l) 1 (lx (c::l).length (c::l) n [fJ (nameKind ((c::l).take n)) ((c::l).take n) 0 0])with
     | false=>simp
     | true=>
      exfalso
      have:=(one_first hb).1
      simp only[fJ,tokOne,Bool.and_eq_true,cU]at this
      have:=congrArg List.length this.2.1
      simp only[List.length_take,List.length_cons]at this he hle
      omega
  | false=>
   simp only[Bool.false_and]
   cases h2:isBlank c with
   | true=>simp only[cond_true];rw[one_later (by omega),Bool.and_false]
   | false=>
    simp only[cond_false]
    cases ht:tokAt (c::l) 0 with
    | none=>simp[oneL]
    | some p=>
     obtain⟨t,n⟩:=p
     simp only[List.nil_append]
     cases hb:oneL (c::l) (c::l) 1 (lx (c::l).length (c::l) (0+n) [t])with
     | false=>simp
     | true=>
      exfalso
      have:=(one_first hb).1
      obtain⟨c',k,x,m,hc',rfl,hk⟩:=tokAt_get ht
      simp only[List.getElem?_cons_zero,Option.some.injEq]at hc'
      subst hc'
      simp only[fJ,tokOne,Bool.and_eq_true]at this
      exact hk h1 (intBeq_iff'.1 this.1)
theorem one_text (p:List Nat):oneF (34::(p++[34])) p 3=okT p:=by
 unfold oneF
 have hlen:(34::(p++[34])).length=p.length+2:=by simp
 rw[show lx ((34::(p++[34])).length+1) (34::(p++[34])) 0 []=(match tokAt (34::(p++[34])) 0 with|some (t,n)=>lx (34::(p++[34])).length (34::(p++[34])) (0+n) ([]++[t])|none=>([],some 0)) from rfl]
 have hta:tokAt (34::(p++[34])) 0=bif okText (34::(p++[34])) (1+cnt dD (p++[34])) (cnt dD (p++[34]))then some (fJ 3 ((p++[34]).take (cnt dD (p++[34]))) 0 0,cnt dD (p++[34])+2)else none:=by
  unfold tokAt
  rw[show eW (34::(p++[34])) 0=textRes (34::(p++[34])) 0 from rfl]
  unfold textRes
  simp only[Nat.zero_add,List.drop_succ_cons,List.drop_zero]
  cases okText (34::(p++[34])) (1+cnt dD (p++[34])) (cnt dD (p++[34]))<;>rfl
 rw[hta]
 have h34:dD ((34:Nat):Int)=false:=rfl
 cases ha:allP p with
 | true=>
  have hm:cnt dD (p++[34])=p.length:=cnt_is (c:=34) (by rw[List.take_left];exact ha) (by simp) h34
  rw[hm,List.take_left]
  have hk:okText (34::(p++[34])) (1+p.length) p.length = !ltI 40 ↑p.length:=by
   unfold okText
   rw[show(34::(p++[34]))[1+p.length]?=some 34 by rw[Nat.add_comm,List.getElem?_cons_succ];simp]
   simp[show aE (34:Int) 34=true from rfl]
  rw[hk]
  unfold okT
  rw[ha]
  cases h4:ltI 40 ↑p.length with
  | true=>simp[oneL]
  | false=>
   have h40:p.length≤40:=by rw[show(40:Int)=((40:Nat):Int) from rfl,eN]at h4;simpa using h4
   have h20:ltI 2000 ↑(34::(p++[34])).length=false:=by rw[hlen,show(2000:Int)=((2000:Nat):Int) from rfl,eN];simp;omega
   have h2:ltI 2 (↑(34::(p++[34])).length-↑p.length)=false:=by rw[hlen,show(↑(p.length+2)-↑p.length:Int)=2 by push_cast;omega];rfl
   simp only[Bool.not_false,cond_true,List.nil_append,Nat.zero_add,Bool.true_and,h20]
   rw[show p.length+2=(34::(p++[34])).length from hlen.symm,one_end (by simp),h2]
   simp[tokOne,fJ,cU.2 (rfl:p=_),aE]
 | false=>
  unfold okT
  rw[ha,Bool.false_and]
  cases hk:okText (34::(p++[34])) (1+cnt dD (p++[34])) (cnt dD (p++[34]))with
  | false=>simp[oneL]
  | true=>
   simp only[cond_true,List.nil_append]
   cases hb:oneL (34::(p++[34])) p 3 (lx (34::(p++[34])).length (34::(p++[34])) (0+(cnt dD (p++[34])+2)) [fJ 3 ((p++[34]).take (cnt dD (p++[34]))) 0 0])with
   | false=>simp
   | true=>
    exfalso
    have:=(one_first hb).1
    simp only[fJ,tokOne,Bool.and_eq_true,cU]at this
    have h5:=cnt_take dD (p++[34])
    rw[this.2.1]at h5
    unfold allP at ha
    rw[h5]at ha
    cases ha
end Go.Proofs.YtogjplcnmibnlaaGreatDoor.Lx
