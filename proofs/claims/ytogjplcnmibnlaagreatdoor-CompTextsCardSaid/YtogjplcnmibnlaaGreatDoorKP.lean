/- What code is made is well made: parts. -/
import Derived.Test.YtogjplcnmibnlaaGreatDoorKGPlain
import Derived.Test.YtogjplcnmibnlaaGreatDoorCZp
set_option autoImplicit false
set_option maxRecDepth 100000
set_option maxHeartbeats 8000000
set_option linter.unusedSimpArgs false
set_option linter.unusedVariables false
namespace Go.Proofs.YtogjplcnmibnlaaGreatDoor.Ck
open Go.Ev Go.Ev.Nd Go.Proofs.YtogjplcnmibnlaaGreatDoor.Env
structure Fits (X:Cx) (nf:Nat) (S:List Str) (N:List (List Ins)) (DL:List Nat):Prop where
 s:S.length≤X.nS
 c:nf+N.length≤X.nC
 d:∀ k v,DL[k]?=some v→X.D (nf+k)=v
structure GR (S:List Str) (nf:Nat) (r:G3) (Q:Cx→Prop):Prop where
 sl:S.length≤r.1.length
 ss:∀ s∈r.1,s∈S∨s.s.length≤2000
 ic:∀ i∈r.2.2,InsOk i
 iN:∀ c∈r.2.1,∀ i∈c,InsOk i
 ty:∃ DL:List Nat,DL.length=r.2.1.length∧∀ X,Fits X nf r.1 r.2.1 DL→(∀ (k:Nat) (co:List Ins) (d:Nat),r.2.1[k]?=some co→DL[k]?=some d→FunOk X co d)∧Q X
theorem GR.imp {S:List Str} {nf:Nat} {r:G3} {Q Q':Cx→Prop} (g:GR S nf r Q) (h:∀ X,Q X→Q' X):GR S nf r Q':=by
 obtain⟨DL,d1,d2⟩:=g.ty
 exact⟨g.sl,g.ss,g.ic,g.iN,DL,d1,fun X hX=>⟨(d2 X hX).1,h X (d2 X hX).2⟩⟩
theorem GR.code {S:List Str} {nf:Nat} {r:G3} {Q:Cx→Prop} (g:GR S nf r Q) (c:List Ins) (hc:∀ i∈c,InsOk i):GR S nf (r.1,r.2.1,c) Q:=⟨g.sl,g.ss,hc,g.iN,g.ty⟩
theorem GR.both {S:List Str} {nf:Nat} {a b:G3} {Qa Qb:Cx→Prop} (ga:GR S nf a Qa) (gb:GR a.1 (nf+a.2.1.length) b Qb) (c:List Ins) (hc:∀ i∈c,InsOk i):GR S nf (b.1,a.2.1++b.2.1,c) (fun X=>Qa X∧Qb X):=by
 obtain⟨DA,a1,a2⟩:=ga.ty
 obtain⟨DB,b1,b2⟩:=gb.ty
 refine⟨Nat.le_trans ga.sl gb.sl,fun s hs => ?_,hc,fun c hc=>(List.mem_append.1 hc).elim (ga.iN c) (gb.iN c),DA++DB,by simp[a1,b1],fun X hX => ?_⟩
 ·rcases gb.ss s hs with h|h
  ·exact ga.ss s h
  ·exact .inr h
 ·have fa:Fits X nf a.1 a.2.1 DA:=⟨Nat.le_trans gb.sl hX.s,by have:=hX.c;simp at this;omega,fun k v hk=>hX.d k v (by rw[List.getElem?_append_left (aI hk)];exact hk)⟩
  have fb:Fits X (nf+a.2.1.length) b.1 b.2.1 DB:=⟨hX.s,by have:=hX.c;simp at this;omega,fun k v hk=>by
   have:=hX.d (DA.length+k) v (by rw[List.getElem?_append_right (Nat.le_add_right _ _),Nat.add_sub_cancel_left];exact hk)
   rw[a1]at this
   rw[Nat.add_assoc]
   exact this⟩
  obtain⟨p1,p2⟩:=a2 X fa
  obtain⟨q1,q2⟩:=b2 X fb
  refine⟨fun k co d hk hd => ?_,p2,q2⟩
  rcases Nat.lt_or_ge k a.2.1.length with h1|h1
  ·simp only at hk
   rw[List.getElem?_append_left h1]at hk
   rw[List.getElem?_append_left (by rw[a1];exact h1)]at hd
   exact p1 k co d hk hd
  ·simp only at hk
   rw[List.getElem?_append_right h1]at hk
   rw[List.getElem?_append_right (by rw[a1];exact h1),a1]at hd
   exact q1 _ co d hk hd
theorem GR.cI {S:List Str} {nf pos:Nat} {a:G3} {b:List Str→Nat→Nat→G3} {Qa Qb:Cx→Prop} (ga:GR S nf a Qa) (gb:GR a.1 (nf+a.2.1.length) (b a.1 (nf+a.2.1.length) (pos+a.2.2.length)) Qb):GR S nf (Env.cI a b nf pos) (fun X=>Qa X∧Qb X):=
 ga.both gb _ fun i hi=>(List.mem_append.1 hi).elim (ga.ic i) (gb.ic i)
theorem GR.gB (S:List Str) (i:Ins) (nf pos:Nat) (hi:InsOk i):GR S nf (Env.gB i S nf pos) (fun _=>True):=
 ⟨Nat.le_refl _,fun s hs => .inl hs,fun j hj=>by simp[Env.gB]at hj;rw[hj];exact hi,fun c hc=>by simp[Env.gB]at hc,[],rfl,fun X _=>⟨fun k co d hk=>by simp[Env.gB]at hk,trivial⟩⟩
theorem GR.fn {S:List Str} {nf:Nat} {r:G3} {Q:Cx→Prop} {op:Int} {dd:Nat} (g:GR S (nf+1) r Q) (hop:InsOk ⟨op,↑nf⟩) (hQ:∀ X,Q X→FunOk X (r.2.2++[⟨10,0⟩]) dd) :
  GR S nf (r.1,(r.2.2++[⟨10,0⟩])::r.2.1,[⟨op,↑nf⟩]) (fun X=>X.D nf=dd∧nf<X.nC):=by
 obtain⟨DL,d1,d2⟩:=g.ty
 refine⟨g.sl,g.ss,fun i hi=>by rw[List.mem_singleton.1 hi];exact hop,fun c hc i hi => ?_,dd::DL,by simp[d1],fun X hX => ?_⟩
 ·rcases List.mem_cons.1 hc with rfl|hc
  ·rcases List.mem_append.1 hi with hi|hi
   ·exact g.ic i hi
   ·rw[List.mem_singleton.1 hi];exact⟨by simp[dO],.inl rfl⟩
  ·exact g.iN c hc i hi
 ·have f1:Fits X (nf+1) r.1 r.2.1 DL:=⟨hX.s,by have:=hX.c;simp at this;omega,fun k v hk=>by
   have:=hX.d (k+1) v (by rw[List.getElem?_cons_succ];exact hk)
   rw[show nf+1+k=nf+(k+1) by omega]
   exact this⟩
  obtain⟨p1,p2⟩:=d2 X f1
  refine⟨fun k co d hk hd => ?_,hX.d 0 dd rfl,by have:=hX.c;simp at this;omega⟩
  cases k with
  | zero=>simp at hk hd;subst hk;subst hd;exact hQ X p2
  | succ k=>simp at hk hd;exact p1 k co d hk hd
def QN (c:List Ins) (pos n sz:Nat) (X:Cx):Prop:=
 ∀ (h:Nat) (tr:List Nat) (df:Nat),cM tr≤h→df≤n→h+2*sz≤100000→n+2*sz≤100000→tr.length+2*sz≤100000→∃ ts,Seg X df c pos ⟨h,n,tr⟩ ts ⟨h+1,n,tr⟩
theorem idxS_lt {v:List Nat}:∀ {l:List Str} (i:Nat),dA l v=true→∃ k,idxS v l i=↑(i+k)∧k<l.length
 | [],i,h=>by simp[dA]at h
 | t::l,i,h=>by
  simp only[idxS]
  cases hb:aB v t.s with
  | true=>exact⟨0,rfl,by simp⟩
  | false=>
   obtain⟨k,h1,h2⟩:=idxS_lt (v:=v) (l:=l) (i+1) (by
    simp only[dA,List.any_cons]at h ⊢
    have:aB t.s v=false∨aB t.s v=true:=by cases aB t.s v<;>simp
    simpa[hb]using h)
   exact⟨k+1,by rw[cond_false,h1];congr 1;omega,by simp;omega⟩
theorem inO_mem {o:List Nat} {l:List (List Nat)} (h:Tr.inO o l=true):o∈l:=by
 unfold Tr.inO at h
 obtain⟨x,hx,hb⟩:=List.any_eq_true.1 h
 rw[nb_of hb];exact hx
theorem op_default {o:List Nat} {k:Nat} (h:aE (Tr.dS o) ↑k=true) (h0:(aB o oInt||aB o oBool)=false) (h1:(aB o oUnit||aB o oNil)=false) (h2:aB o oStr=false) (h3:aB o oVar=false)
  (c1:aB o oFun=false) (c2:aB o oLet=false) (c3:aB o oRec=false) (c4:aB o oIf=false) (c5:aB o dV=false) (c6:aB o oTry=false) (c7:aB o oSeq=false) :
  opI o∈eG∧takesF (opI o)=(k,1):=by
 have hk:=dN.1 h
 unfold Tr.dS at hk
 simp only[Bool.or_eq_false_iff]at h0 h1
 cases q0:Tr.inO o Tr.ops0 with
 | true=>
  have hm:=inO_mem q0
  simp only[Tr.ops0,List.mem_cons,List.not_mem_nil,or_false]at hm
  rcases hm with rfl|rfl|rfl|rfl|rfl|rfl
  ·exact absurd h0.1 (by decide)
  ·exact absurd h0.2 (by decide)
  ·exact absurd h1.1 (by decide)
  ·exact absurd h1.2 (by decide)
  ·exact absurd h2 (by decide)
  ·exact absurd h3 (by decide)
 | false=>
 rw[q0]at hk
 cases q1:Tr.inO o Tr.ops1 with
 | true=>
  have hk1:k=1:=by rw[q1]at hk;simp at hk;omega
  subst hk1
  have hm:=inO_mem q1
  simp only[Tr.ops1,List.mem_cons,List.not_mem_nil,or_false]at hm
  rcases hm with rfl|hm
  ·exact absurd c1 (by decide)
  ·rcases hm with rfl|rfl|rfl|rfl|rfl|rfl|rfl|rfl|rfl|rfl<;>exact⟨by decide,by decide⟩
 | false=>
 rw[q1]at hk
 cases q2:Tr.inO o Tr.ops2 with
 | true=>
  have hk1:k=2:=by rw[q2]at hk;simp at hk;omega
  subst hk1
  have hm:=inO_mem q2
  simp only[Tr.ops2,List.mem_cons,List.not_mem_nil,or_false]at hm
  rcases hm with rfl|rfl|rfl|rfl|hm
  ·exact absurd c2 (by decide)
  ·exact absurd c3 (by decide)
  ·exact absurd c6 (by decide)
  ·exact absurd c7 (by decide)
  ·rcases hm with rfl|rfl|rfl|rfl|rfl|rfl|rfl|rfl|rfl|rfl|rfl<;>exact⟨by decide,by decide⟩
 | false=>
 rw[q2]at hk
 cases q3:Tr.inO o Tr.ops3 with
 | true=>
  have hm:=inO_mem q3
  simp only[Tr.ops3,List.mem_cons,List.not_mem_nil,or_false]at hm
  rcases hm with rfl|rfl
  ·exact absurd c4 (by decide)
  ·exact absurd c5 (by decide)
 | false=>
  rw[q3]at hk
  simp at hk
theorem floorF_app (l:List Nat) (a:Nat):cM (l++[a])=a:=by simp[cM]
theorem insOk1 {op n:Int} (h:op∈dO) (h2:aE n 0=true∨hasN op=true):InsOk ⟨op,n⟩:=⟨h,h2⟩
theorem plain_all {op:Int} (h:op∈eG):op∈dO:=by
 simp only[eG,dO,List.mem_cons,List.not_mem_nil,or_false]at h ⊢;omega
theorem seg_bound {X:Cx} {c:List Ins} {pos n sz h df:Nat} {tr:List Nat} (q:QN c (pos+1) (n+1) sz X) (hf:cM tr≤h) (hd:df≤n) (b1:h+2*sz+2≤100000) (b2:n+1+2*sz≤100000) (b3:tr.length+2*sz≤100000) :
  ∃ ts,Seg X df (⟨6,0⟩::(c++[⟨7,0⟩])) pos ⟨h+1,n,tr⟩ ts ⟨h+1,n,tr⟩:=by
 obtain⟨ts,s⟩:=q h tr df hf (by omega) (by omega) b2 b3
 have s1:Seg X df [⟨6,0⟩] pos ⟨h+1,n,tr⟩ [⟨h+1,n,tr⟩] ⟨h,n+1,tr⟩:=seg_one (fun st hst => .bind 0 (by simp only;omega) hst) ⟨by simp only;omega,by simp only;omega,by simp only;omega⟩
 have s3:Seg X df [⟨7,0⟩] (pos+1+c.length) ⟨h+1,n+1,tr⟩ [⟨h+1,n+1,tr⟩] ⟨h+1,n,tr⟩:=seg_one (fun st hst => .drop 0 (by simp only;omega) (by simp only;omega) hst) ⟨by simp only;omega,by simp only;omega,by simp only;omega⟩
 exact⟨_,seg_app s1 (seg_app s s3)⟩
def QB (c:List Ins) (pos n sz:Nat) (X:Cx):Prop:=
 ∀ (h:Nat) (tr:List Nat) (df:Nat),cM tr≤h→df≤n→h+2*sz+2≤100000→n+1+2*sz≤100000→tr.length+2*sz≤100000→∃ ts,Seg X df c pos ⟨h+1,n,tr⟩ ts ⟨h+1,n,tr⟩
theorem genB_ok {g:GF} {k:Nd} {p:List Nat} {en S:List Str} {nf pos sz:Nat} (hg:GR S nf (g k (⟨p⟩::en) S nf (pos+1)) (QN (g k (⟨p⟩::en) S nf (pos+1)).2.2 (pos+1) (en.length+1) sz)) :
  GR S nf (genB g k p en S nf pos) (QB (genB g k p en S nf pos).2.2 pos en.length sz):=by
 have hQ:∀ X,QN (g k (⟨p⟩::en) S nf (pos+1)).2.2 (pos+1) (en.length+1) sz X→QB (genB g k p en S nf pos).2.2 pos en.length sz X:=fun X q h tr df a b c d e=>seg_bound q a b c d e
 have hc:∀ i∈((⟨6,0⟩:Ins)::((g k (⟨p⟩::en) S nf (pos+1)).2.2++[(⟨7,0⟩:Ins)])),InsOk i:=by
  intro i hi
  rcases List.mem_cons.1 hi with rfl|hi
  ·exact insOk1 (by simp[dO]) (.inl rfl)
  ·rcases List.mem_append.1 hi with hi|hi
   ·exact hg.ic i hi
   ·rw[List.mem_singleton.1 hi];exact insOk1 (by simp[dO]) (.inl rfl)
 exact GR.imp (hg.code _ hc) hQ
theorem genK_ok {g:GF} {en:List Str}:∀ (l:List Nd),(∀ k∈l,∀ S nf pos,GR S nf (g k en S nf pos) (QN (g k en S nf pos).2.2 pos en.length k.size))→∀ S nf pos,GR S nf (genK g en l S nf pos) fun X=>
  ∀ (h:Nat) (tr:List Nat) (df:Nat),cM tr≤h→df≤en.length→h+2*dU l≤100000→en.length+2*dU l≤100000→tr.length+2*dU l≤100000→∃ ts,Seg X df (genK g en l S nf pos).2.2 pos ⟨h,en.length,tr⟩ ts ⟨h+l.length,en.length,tr⟩
 | [],_,S,nf,pos=>⟨Nat.le_refl _,fun s hs => .inl hs,fun i hi=>by simp[genK]at hi,fun c hc=>by simp[genK]at hc,[],rfl,fun X _=>⟨fun k co d hk=>by simp[genK]at hk,fun h tr df _ _ _ _ _=>⟨[],seg_nil _⟩⟩⟩
 | k::l,hg,S,nf,pos=>by
  have h1:=hg k (List.mem_cons_self ..) S nf pos
  have h2:=genK_ok l (fun x hx=>hg x (List.mem_cons_of_mem _ hx)) (g k en S nf pos).1 (nf+(g k en S nf pos).2.1.length) (pos+(g k en S nf pos).2.2.length)
  refine(GR.cI h1 h2).imp ?_
  rintro X ⟨qa,qb⟩ h tr df a b c d e
  have hs:1≤k.size:=by rw[size_eq];omega
  simp only[dU]at c d e
  obtain⟨t1,s1⟩:=qa h tr df a b (by omega) (by omega) (by omega)
  obtain⟨t2,s2⟩:=qb (h+1) tr df (by omega) b (by omega) (by omega) (by omega)
  rw[show h+1+l.length=h+(k::l).length by simp;omega]at s2
  exact⟨_,seg_app s1 s2⟩
theorem gr_eq {S:List Str} {nf:Nat} {r r':G3} {pos n sz:Nat} (h:r=r') (g:GR S nf r' (QN r'.2.2 pos n sz)):GR S nf r (QN r.2.2 pos n sz):=h▸g
theorem leaf_ok {t:Nd} {en S S':List Str} {ins:Ins} {nf pos:Nat} (he:Tr.eachF t=true) (hv:leafV t en) (hl:dL t.op t.name t.n en S=some (S',ins)):GR S nf (S',[],[ins]) (QN [ins] pos en.length t.size):=by
 have hs:1≤t.size:=by rw[size_eq];omega
 rw[Tr.eachF_eq]at he
 simp only[Bool.and_eq_true]at he
 have hn:=he.2.1
 unfold Tr.namesR at hn
 simp only[Bool.and_eq_true]at hn
 have fin:∀ (S':List Str) (ins:Ins),S.length≤S'.length→(∀ s∈S',s∈S∨s.s.length≤2000)→InsOk ins→(∀ (X:Cx) (df h:Nat) (tr:List Nat) (st:Nat→Option Sx),S'.length≤X.nS→cM tr≤h→st (pos+1)=some ⟨h+1,en.length,tr⟩→IOk' X df st pos ⟨h,en.length,tr⟩ ins)→GR S nf (S',[],[ins]) (QN [ins] pos en.length t.size):=
  fun S' ins a b c d=>⟨a,b,fun i hi=>by rw[List.mem_singleton.1 hi];exact c,fun c hc=>by simp at hc,[],rfl,fun X hX=>⟨fun k co d hk=>by simp at hk,fun h tr df e1 e2 e3 e4 e5=>⟨_,seg_one (fun st hst=>d X df h tr st hX.s e1 hst) ⟨by simp only;omega,by simp only;omega,by simp only;omega⟩⟩⟩⟩
 unfold dL at hl
 cases h0:(aB t.op oInt||aB t.op oBool)with
 | true=>
  rw[h0]at hl
  simp at hl
  obtain⟨rfl,rfl⟩:=hl
  exact fin _ _ (Nat.le_refl _) (fun s hs => .inl hs) (insOk1 (by simp[dO]) (.inr rfl)) fun X df h tr st _ e1 e2 => .plain 1 _ (by simp[eG]) (by simpa[show takesF 1=(0,1) from rfl]using e1) (by simpa[show takesF 1=(0,1) from rfl]using e2)
 | false=>
 rw[h0]at hl
 cases h1:(aB t.op oUnit||aB t.op oNil)with
 | true=>
  rw[h1]at hl
  simp at hl
  obtain⟨rfl,rfl⟩:=hl
  exact fin _ _ (Nat.le_refl _) (fun s hs => .inl hs) (insOk1 (by simp[dO]) (.inr rfl)) fun X df h tr st _ e1 e2 => .plain 1 _ (by simp[eG]) (by simpa[show takesF 1=(0,1) from rfl]using e1) (by simpa[show takesF 1=(0,1) from rfl]using e2)
 | false=>
 rw[h1]at hl
 cases h2:aB t.op oStr with
 | true=>
  rw[h2]at hl
  simp at hl
  obtain⟨rfl,rfl⟩:=hl
  have hlen:t.name.length≤2000:=by
   have h3:=hn.1
   rw[nb_of h2]at h3
   have h4:Lx.okT t.name=true:=h3
   unfold Lx.okT at h4
   simp only[Bool.and_eq_true,Bool.not_eq_true']at h4
   have h5:=h4.2
   rw[dI]at h5
   simp at h5
   omega
  unfold strF strI
  cases hb:dA S t.name with
  | true=>
   obtain⟨k,k1,k2⟩:=idxS_lt (v:=t.name) (l:=S) 0 hb
   simp only[cond_true]
   rw[k1,Nat.zero_add]
   exact fin _ _ (Nat.le_refl _) (fun s hs => .inl hs) (insOk1 (by simp[dO]) (.inr rfl)) fun X df h tr st hX e1 e2 => .str k (by omega) e1 e2
  | false=>
   simp only[cond_false]
   exact fin _ _ (by simp) (fun s hs=>by
    rcases List.mem_append.1 hs with hs|hs
    ·exact .inl hs
    ·rw[List.mem_singleton.1 hs];exact .inr hlen) (insOk1 (by simp[dO]) (.inr rfl)) fun X df h tr st hX e1 e2 => .str S.length (by simp at hX;omega) e1 e2
 | false=>
 rw[h2]at hl
 cases h3:aB t.op oVar with
 | true=>
  rw[h3]at hl
  simp at hl
  obtain⟨rfl,rfl⟩:=hl
  obtain⟨k,k1,k2⟩:=idxS_lt (v:=t.name) (l:=en) 0 (hv.2 h3)
  rw[k1,Nat.zero_add]
  exact fin _ _ (Nat.le_refl _) (fun s hs => .inl hs) (insOk1 (by simp[dO]) (.inr rfl)) fun X df h tr st _ e1 e2 => .get k k2 e1 e2
 | false=>
  rw[h3]at hl
  simp at hl
theorem two_ok {op:Int} {one other:List Str→Nat→Nat→G3} {S:List Str} {nf pos:Nat} {Qa Qb:Cx→Prop} (hop:op∈dO) (hN:hasN op=true)
  (ga:GR S nf (one S nf (pos+1)) Qa)
  (gb:GR (one S nf (pos+1)).1 (nf+(one S nf (pos+1)).2.1.length) (other (one S nf (pos+1)).1 (nf+(one S nf (pos+1)).2.1.length) (pos+1+(one S nf (pos+1)).2.2.length+1)) Qb) :
  GR S nf (twoG op one other S nf pos) (fun X=>Qa X∧Qb X):=by
 have hc:∀ i∈(twoG op one other S nf pos).2.2,InsOk i:=by
  intro i hi
  simp only[twoG]at hi
  rcases List.mem_cons.1 hi with rfl|hi
  ·exact insOk1 hop (.inr hN)
  ·rcases List.mem_append.1 hi with hi|hi
   ·exact ga.ic i hi
   ·rcases List.mem_cons.1 hi with rfl|hi
    ·exact insOk1 (by simp[dO]) (.inr rfl)
    ·exact gb.ic i hi
 exact GR.both ga gb _ hc
theorem sizes_le:∀ {l:List Nd} {t:Nd},t∈l→t.size≤dU l
 | a::l,t,h=>by
  simp only[dU]
  rcases List.mem_cons.1 h with rfl|h
  ·omega
  ·have:=sizes_le h;omega
theorem len_sizes:∀ l:List Nd,l.length≤dU l
 | []=>Nat.le_refl _
 | t::l=>by
  have:=len_sizes l
  have:=size_eq t
  simp only[dU,List.length_cons]
  omega
theorem kid_facts {t:Nd} {d:Nat} (hd:t.dep≤d+1) (he:Tr.eachF t=true) {i:Nat} (hi:i<t.kids.length):(kid t i).dep≤d∧Tr.eachF (kid t i)=true:=by
 rw[Tr.eachF_eq]at he
 simp only[Bool.and_eq_true]at he
 have hm:=kid_mem hi
 refine⟨?_,Tr.eachL_iff.1 he.2.2 _ hm⟩
 rw[dep_eq]at hd
 have:=dep_mem hm
 omega
theorem gen_ok:∀ (d:Nat) (t:Nd) (en S:List Str) (nf pos:Nat),t.dep≤d→Tr.eachF t=true→Vd d t en→en.length+2*t.size≤100000→GR S nf (gen d t en S nf pos) (QN (gen d t en S nf pos).2.2 pos en.length t.size)
 | 0,t,en,S,nf,pos,hd,_,_,_=>by rw[dep_eq]at hd;omega
 | d+1,t,en,S,nf,pos,hd,he,hv,hb=>by
  obtain⟨hleaf,_,hkv⟩:=hv
  have hs1:1≤t.size:=by rw[size_eq];omega
  have har:=(dQ (each_ar t he)).1
  have ih:∀ i,i<t.kids.length→∀ (b:List Str),bi t i=b→∀ S nf pos,b.length+en.length+2*(kid t i).size≤100000→GR S nf (gen d (kid t i) (b++en) S nf pos) (QN (gen d (kid t i) (b++en) S nf pos).2.2 pos (b.length+en.length) (kid t i).size):=by
   intro i hi b hbi S nf pos hsz
   obtain⟨k1,k2⟩:=kid_facts hd he hi
   have:=gen_ok d (kid t i) (b++en) S nf pos k1 k2 (by rw[←hbi];exact hkv i hi) (by rw[List.length_append];exact hsz)
   rw[List.length_append]at this
   exact this
  cases hl:dL t.op t.name t.n en S with
  | some q=>
   obtain⟨S',ins⟩:=q
   exact gr_eq (by rw[gen,hl]) (leaf_ok he hleaf hl)
  | none=>
  have hlk:=hl
  unfold dL at hlk
  have q0:(aB t.op oInt||aB t.op oBool)=false:=by cases h:(aB t.op oInt||aB t.op oBool)with|false=>rfl|true=>rw[h]at hlk;simp at hlk
  rw[q0]at hlk
  have q1:(aB t.op oUnit||aB t.op oNil)=false:=by cases h:(aB t.op oUnit||aB t.op oNil)with|false=>rfl|true=>rw[h]at hlk;simp at hlk
  rw[q1]at hlk
  have q2:aB t.op oStr=false:=by cases h:aB t.op oStr with|false=>rfl|true=>rw[h]at hlk;simp at hlk
  rw[q2]at hlk
  have q3:aB t.op oVar=false:=by cases h:aB t.op oVar with|false=>rfl|true=>rw[h]at hlk;simp at hlk
  cases c1:aB t.op oFun with
  | true=>
   have hn:=har 1 (by simp[arity,c1])
   have hsz:=kids1 hn
   have g0:=ih 0 (by omega) [⟨t.name⟩] (by simp[bi,c1,fM]) S (nf+1) 0 (by simp;omega)
   refine gr_eq (r':=((gen d (kid t 0) (⟨t.name⟩::en) S (nf+1) 0).1,((gen d (kid t 0) (⟨t.name⟩::en) S (nf+1) 0).2.2++[⟨10,0⟩])::(gen d (kid t 0) (⟨t.name⟩::en) S (nf+1) 0).2.1,[⟨4,↑nf⟩])) (by rw[gen,hl,c1];rfl) ?_
   refine(GR.fn (dd:=1+en.length) (op:=4) g0 (insOk1 (by simp[dO]) (.inr rfl)) fun X q => ?_).imp ?_
   ·obtain⟨ts,s⟩:=q 0 [] (1+en.length) (by simp[cM]) (by simp) (by omega) (by simp;omega) (by simp;omega)
    exact fun_ok s (by omega)
   ·rintro X ⟨hD,hC⟩ h tr df a b c e f
    exact⟨_,seg_one (fun st hst => .clos nf hC (by rw[hD];simp only;omega) a hst) ⟨by simp only;omega,by simp only;omega,by simp only;omega⟩⟩
  | false=>
  cases c2:aB t.op oLet with
  | true=>
   have hn:=har 2 (by simp[arity,c1,c2])
   have hsz:=kids2 hn
   have g0:=ih 0 (by omega) [] (by simp[bi,c1,c2,fM]) S nf pos (by simp;omega)
   simp only[List.nil_append,List.length_nil,Nat.zero_add]at g0
   have g1:=ih 1 (by omega) [⟨t.name⟩] (by simp[bi,c1,c2,fM]) (gen d (kid t 0) en S nf pos).1 (nf+(gen d (kid t 0) en S nf pos).2.1.length) (pos+(gen d (kid t 0) en S nf pos).2.2.length+1) (by simp;omega)
   simp only[List.length_cons,List.length_nil,Nat.zero_add,List.cons_append,List.nil_append,Nat.add_comm 1]at g1
   refine gr_eq (r':=cI (gen d (kid t 0) en S nf pos) (genB (gen d) (kid t 1) t.name en) nf pos) (by rw[gen,hl,c1,c2];rfl) ?_
   refine(GR.cI g0 (genB_ok g1)).imp ?_
   rintro X ⟨qa,qb⟩ h tr df a b c e f
   obtain⟨t1,s1⟩:=qa h tr df a b (by omega) (by omega) (by omega)
   obtain⟨t2,s2⟩:=qb h tr df a b (by omega) (by omega) (by omega)
   exact⟨_,seg_app s1 s2⟩
  | false=>
  cases c3:aB t.op oRec with
  | true=>
   have hn:=har 2 (by simp[arity,c1,c2,c3])
   have hsz:=kids2 hn
   have g0:=ih 0 (by omega) [⟨t.arg⟩,⟨t.name⟩] (by simp[bi,c1,c2,c3,fM]) S (nf+1) 0 (by simp;omega)
   have gf:=GR.fn (dd:=2+en.length) (op:=5) g0 (insOk1 (by simp[dO]) (.inr rfl)) fun X q=>by
    obtain⟨ts,s⟩:=q 0 [] (2+en.length) (by simp[cM]) (by simp) (by omega) (by simp;omega) (by simp;omega)
    exact fun_ok s (by omega)
   have g1:=ih 1 (by omega) [⟨t.name⟩] (by simp[bi,c1,c2,c3,fM]) (cZ (gen d) (kid t 0) (⟨t.arg⟩::⟨t.name⟩::en) S nf).1 (nf+(cZ (gen d) (kid t 0) (⟨t.arg⟩::⟨t.name⟩::en) S nf).2.length) (pos+1+1) (by simp;omega)
   simp only[List.length_cons,List.length_nil,Nat.zero_add,List.cons_append,List.nil_append,Nat.add_comm 1 en.length]at g1
   refine gr_eq (r':=cI ((cZ (gen d) (kid t 0) (⟨t.arg⟩::⟨t.name⟩::en) S nf).1,(cZ (gen d) (kid t 0) (⟨t.arg⟩::⟨t.name⟩::en) S nf).2,[⟨5,↑nf⟩]) (genB (gen d) (kid t 1) t.name en) nf pos) (by rw[gen,hl,c1,c2,c3];rfl) ?_
   refine(GR.cI gf (genB_ok g1)).imp ?_
   rintro X ⟨⟨hD,hC⟩,qb⟩ h tr df a b c e f
   have s1:Seg X df [⟨5,↑nf⟩] pos ⟨h,en.length,tr⟩ [⟨h,en.length,tr⟩] ⟨h+1,en.length,tr⟩:=seg_one (fun st hst => .recu nf hC (by rw[hD];simp only;omega) a hst) ⟨by simp only;omega,by simp only;omega,by simp only;omega⟩
   obtain⟨t2,s2⟩:=qb h tr df a b (by omega) (by omega) (by omega)
   exact⟨_,seg_app s1 s2⟩
  | false=>
  cases c4:aB t.op oIf with
  | true=>
   have hn:=har 3 (ar3 c4 (.inl rfl))
   have hsz:=kids3 hn
   have b0:∀ i,bi t i=[]:=fun i=>by simp[bi,c1,c2,c3,c4,fM]
   have ih0:∀ i,i<t.kids.length→∀ S nf pos,en.length+2*(kid t i).size≤100000→GR S nf (gen d (kid t i) en S nf pos) (QN (gen d (kid t i) en S nf pos).2.2 pos en.length (kid t i).size):=fun i hi S nf pos hz=>by
    have:=ih i hi [] (b0 i) S nf pos (by simpa using hz)
    simpa using this
   refine gr_eq (r':=cI (gen d (kid t 0) en S nf pos) (twoG 12 (gen d (kid t 1) en) (gen d (kid t 2) en)) nf pos) (by rw[gen,hl,c1,c2,c3,c4];rfl) ?_
   refine(GR.cI (ih0 0 (by omega) S nf pos (by omega)) (two_ok (by simp[dO]) rfl (ih0 1 (by omega) _ _ _ (by omega)) (ih0 2 (by omega) _ _ _ (by omega)))).imp ?_
   rintro X ⟨qa,qb,qc⟩ h tr df a b c e f
   obtain⟨t1,s1⟩:=qa h tr df a b (by omega) (by omega) (by omega)
   obtain⟨t2,s2⟩:=qb h tr df a b (by omega) (by omega) (by omega)
   obtain⟨t3,s3⟩:=qc h tr df a b (by omega) (by omega) (by omega)
   exact⟨_,seg_app s1 (seg_two (fun st h1 h2 => .jz _ (by simp only;omega) h2 h1) (by simp only;omega) ⟨by simp only;omega,by simp only;omega,by simp only;omega⟩ ⟨by simp only;omega,by simp only;omega,by simp only;omega⟩ s2 s3)⟩
  | false=>
  cases c5:aB t.op dV with
  | true=>
   have hn:=har 3 (ar3 c5 (.inr rfl))
   have hsz:=kids3 hn
   have g0:=fun S nf pos=>ih 0 (by omega) [] (by simp[bi,c1,c2,c3,c4,c5,fM]) S nf pos (by simp;omega)
   have g1:=fun S nf pos=>ih 1 (by omega) [] (by simp[bi,c1,c2,c3,c4,c5,fM]) S nf pos (by simp;omega)
   have g2:=fun S nf pos=>ih 2 (by omega) [⟨t.arg⟩,⟨t.name⟩] (by simp[bi,c1,c2,c3,c4,c5,fM]) S nf pos (by simp;omega)
   simp only[List.nil_append,List.length_nil,Nat.zero_add,List.length_cons,List.cons_append]at g0 g1 g2
   refine gr_eq (r':=cI (gen d (kid t 0) en S nf pos) (twoG 13 (fun S nf pos=>cI (cI (gen d (kid t 2) (⟨t.arg⟩::⟨t.name⟩::en) S nf pos) (gB ⟨7,0⟩) nf pos) (gB ⟨7,0⟩) nf pos) (gen d (kid t 1) en)) nf pos) (by rw[gen,hl,c1,c2,c3,c4,c5];rfl) ?_
   refine(GR.cI (g0 S nf pos) (two_ok (by simp[dO]) rfl (GR.cI (GR.cI (g2 _ _ _) (GR.gB _ ⟨7,0⟩ _ _ (insOk1 (by simp[dO]) (.inl rfl)))) (GR.gB _ ⟨7,0⟩ _ _ (insOk1 (by simp[dO]) (.inl rfl)))) (g1 _ _ _))).imp ?_
   rintro X ⟨qa,⟨⟨qb,_⟩,_⟩,qc⟩ h tr df a b c e f
   obtain⟨t1,s1⟩:=qa h tr df a b (by omega) (by omega) (by omega)
   obtain⟨t2,s2⟩:=qb h tr df a (by omega) (by omega) (by omega) (by omega)
   obtain⟨t3,s3⟩:=qc h tr df a b (by omega) (by omega) (by omega)
   have s4:∀ p,Seg X df [⟨7,0⟩] p ⟨h+1,1+1+en.length,tr⟩ [⟨h+1,1+1+en.length,tr⟩] ⟨h+1,en.length+1,tr⟩:=fun p=>seg_one (fun st hst => .drop 0 (by simp only;omega) (by simp only;omega) (by rw[hst];simp only[Option.some.injEq,Sx.mk.injEq,and_true,true_and];omega)) ⟨by simp only;omega,by simp only;omega,by simp only;omega⟩
   have s5:∀ p,Seg X df [⟨7,0⟩] p ⟨h+1,en.length+1,tr⟩ [⟨h+1,en.length+1,tr⟩] ⟨h+1,en.length,tr⟩:=fun p=>seg_one (fun st hst => .drop 0 (by simp only;omega) (by simp only;omega) hst) ⟨by simp only;omega,by simp only;omega,by simp only;omega⟩
   refine⟨_,seg_app s1 (seg_two (xa:=⟨h,1+1+en.length,tr⟩) (xb:=⟨h,en.length,tr⟩) (fun st h1 h2 => .case _ (by simp only;omega) h2 (by rw[h1];simp only[Option.some.injEq,Sx.mk.injEq,and_true];omega)) (by simp only;omega) ⟨by simp only;omega,by simp only;omega,by simp only;omega⟩ ⟨by simp only;omega,by simp only;omega,by simp only;omega⟩ (seg_app (seg_app s2 (s4 _)) (s5 _)) s3)⟩
  | false=>
  cases c6:aB t.op oTry with
  | true=>
   have hn:=har 2 (by simp[arity,c1,c2,c3,c6])
   have hsz:=kids2 hn
   have g0:=fun S nf pos=>ih 0 (by omega) [] (by simp[bi,c1,c2,c3,c4,c5,c6,fM]) S nf pos (by simp;omega)
   have g1:=fun S nf pos=>ih 1 (by omega) [⟨t.name⟩] (by simp[bi,c1,c2,c3,c4,c5,c6,fM]) S nf pos (by simp;omega)
   simp only[List.nil_append,List.length_nil,Nat.zero_add,List.length_cons,List.cons_append,Nat.add_comm 1 en.length]at g0 g1
   refine gr_eq (r':=twoG 14 (fun S nf pos=>cI (gen d (kid t 0) en S nf pos) (gB ⟨15,0⟩) nf pos) (genB (gen d) (kid t 1) t.name en) S nf pos) (by rw[gen,hl,c1,c2,c3,c4,c5,c6];rfl) ?_
   refine(two_ok (by simp[dO]) rfl (GR.cI (g0 _ _ _) (GR.gB _ ⟨15,0⟩ _ _ (insOk1 (by simp[dO]) (.inl rfl)))) (genB_ok (g1 _ _ _))).imp ?_
   rintro X ⟨⟨qa,_⟩,qb⟩ h tr df a b c e f
   obtain⟨t1,s1⟩:=qa h (tr++[h]) df (by rw[floorF_app];exact Nat.le_refl _) b (by omega) (by omega) (by simp;omega)
   obtain⟨t2,s2⟩:=qb h tr df a b (by omega) (by omega) (by omega)
   have s3:∀ p,Seg X df [⟨15,0⟩] p ⟨h+1,en.length,tr++[h]⟩ [⟨h+1,en.length,tr++[h]⟩] ⟨h+1,en.length,tr⟩:=fun p=>seg_one (fun st hst => .untri 0 tr h rfl (by rw[floorF_app];simp only;omega) hst) ⟨by simp only;omega,by simp only;omega,by simp;omega⟩
   exact⟨_,seg_two (fun st h1 h2 => .tri _ a h2 h1) (by simp only;omega) ⟨by simp only;omega,by simp only;omega,by simp only;omega⟩ ⟨by simp only;omega,by simp only;omega,by simp only;omega⟩ (seg_app s1 (s3 _)) s2⟩
  | false=>
  have b0:∀ i,bi t i=[]:=fun i=>by simp[bi,c1,c2,c3,c4,c5,c6,fM]
  have ih0:∀ i,i<t.kids.length→∀ S nf pos,en.length+2*(kid t i).size≤100000→GR S nf (gen d (kid t i) en S nf pos) (QN (gen d (kid t i) en S nf pos).2.2 pos en.length (kid t i).size):=fun i hi S nf pos hz=>by
   have:=ih i hi [] (b0 i) S nf pos (by simpa using hz)
   simpa using this
  cases c7:aB t.op oSeq with
  | true=>
   have hn:=har 2 (by simp[arity,c1,c2,c3,c6,c7])
   have hsz:=kids2 hn
   refine gr_eq (r':=cI (cI (gen d (kid t 0) en S nf pos) (gB ⟨8,0⟩) nf pos) (gen d (kid t 1) en) nf pos) (by rw[gen,hl,c1,c2,c3,c4,c5,c6,c7];rfl) ?_
   refine(GR.cI (GR.cI (ih0 0 (by omega) S nf pos (by omega)) (GR.gB _ ⟨8,0⟩ _ _ (insOk1 (by simp[dO]) (.inl rfl)))) (ih0 1 (by omega) _ _ _ (by omega))).imp ?_
   rintro X ⟨⟨qa,_⟩,qb⟩ h tr df a b c e f
   obtain⟨t1,s1⟩:=qa h tr df a b (by omega) (by omega) (by omega)
   obtain⟨t2,s2⟩:=qb h tr df a b (by omega) (by omega) (by omega)
   have s3:∀ p,Seg X df [⟨8,0⟩] p ⟨h+1,en.length,tr⟩ [⟨h+1,en.length,tr⟩] ⟨h,en.length,tr⟩:=fun p=>seg_one (fun st hst => .plain 8 0 (by simp[eG]) (by rw[show takesF 8=(1,0) from rfl];simp only;omega) (by rw[show takesF 8=(1,0) from rfl];simpa using hst)) ⟨by simp only;omega,by simp only;omega,by simp only;omega⟩
   exact⟨_,seg_app (seg_app s1 (s3 _)) s2⟩
  | false=>
   have he':=he
   rw[Tr.eachF_eq]at he'
   simp only[Bool.and_eq_true]at he'
   obtain⟨o1,o2⟩:=op_default he'.1 q0 q1 q2 q3 c1 c2 c3 c4 c5 c6 c7
   have hsz:=size_eq t
   have hk:∀ k∈t.kids,∀ S nf pos,GR S nf (gen d k en S nf pos) (QN (gen d k en S nf pos).2.2 pos en.length k.size):=by
    intro k hm S nf pos
    obtain⟨i,hi,rfl⟩:=List.getElem_of_mem hm
    have e1:t.kids[i]=kid t i:=by unfold kid;rw[List.getD_eq_getElem?_getD,List.getElem?_eq_getElem hi];rfl
    rw[e1]
    have:=sizes_le (kid_mem hi)
    exact ih0 i hi S nf pos (by omega)
   refine gr_eq (r':=cI (genK (gen d) en t.kids S nf pos) (gB ⟨opI t.op,0⟩) nf pos) (by rw[gen,hl,c1,c2,c3,c4,c5,c6,c7];rfl) ?_
   refine(GR.cI (genK_ok t.kids hk S nf pos) (GR.gB _ ⟨opI t.op,0⟩ _ _ (insOk1 (plain_all o1) (.inl rfl)))).imp ?_
   rintro X ⟨qa,_⟩ h tr df a b c e f
   have hkl:t.kids.length≤dU t.kids:=len_sizes t.kids
   obtain⟨t1,s1⟩:=qa h tr df a b (by omega) (by omega) (by omega)
   have s3:∀ p,Seg X df [⟨opI t.op,0⟩] p ⟨h+t.kids.length,en.length,tr⟩ [⟨h+t.kids.length,en.length,tr⟩] ⟨h+1,en.length,tr⟩:=fun p=>seg_one (fun st hst => .plain _ 0 o1 (by rw[o2];simp only;omega) (by rw[o2];simpa using hst)) ⟨by simp only;omega,by simp only;omega,by simp only;omega⟩
   exact⟨_,seg_app s1 (s3 _)⟩
end Go.Proofs.YtogjplcnmibnlaaGreatDoor.Ck
