/- A region that draws its order: the end of the proof. -/
import Derived.Test.YtogjplcnmibnlaaGreatDoorEvK
set_option autoImplicit false
set_option linter.unusedSectionVars false
set_option linter.unusedVariables false
set_option linter.unusedSimpArgs false
namespace Go.Ev
variable [Inhabited KA0] [MT]
section
variable {P:Program} {ty:Nat→Option TyI} {call:fO} {n nx0:Nat} {ops:Array Oper} {pl:List PE} {m:T Nat}
def Norm:List PE→Prop
 | []=>True
 | q::_=>q.eff=true
theorem DR.normal (PP:PlanP ops pl m) {G:Gh} {w:World} {a:Act} {listed:Array Bool} {res:Tm × H}:∀ (rest:List PE) {done:List PE} {h:H} {tm:Tm} {U:List Pd},pl=done++rest →
  DR ty n nx0 ops G w h tm a listed done U→bI call ty n ops rest tm h=some res →
  ∃ done' rest' tm' h' U',pl=done'++rest'∧Norm rest'∧DR ty n nx0 ops G w h' tm' a listed done' U'∧bI call ty n ops rest' tm' h'=some res∧h.nx≤h'.nx∧∀ id,id<h.nx→h'.t.get id=h.t.get id:=by
 intro rest
 induction rest with
 | nil=>intro done h tm U hpl D he;exact⟨done,[],tm,h,U,hpl,trivial,D,he,Nat.le_refl _,fun _ _=>rfl⟩
 | cons q r ih=>
  intro done h tm U hpl D he
  cases hq:q.eff with
  | true=>exact⟨done,q::r,tm,h,U,hpl,hq,D,he,Nat.le_refl _,fun _ _=>rfl⟩
  | false=>
   obtain⟨tm',h',U',D',he',h1,h2⟩:=D.absorb PP hpl hq he
   obtain⟨d,r',tm2,h3,U2,k1,k2,k3,k4,k5,k6⟩:=ih (by rw[hpl];simp) D' he'
   exact⟨d,r',tm2,h3,U2,k1,k2,k3,k4,Nat.le_trans h1 k5,fun id hid=>(k6 id (by omega)).trans (h2 id hid)⟩
theorem Ext.more {G:Gh} {w:World} {h:H} {G':Gh} {w':World} {h' h2:H} (E:Ext G w h G' w' h') (h1:h'.nx≤h2.nx) (hg:∀ id,id<h'.nx→h2.t.get id=h'.t.get id):Ext G w h G' w' h2:=
 ⟨E.os,E.tape,E.output,E.size,E.base,E.still,E.part,E.ρ,E.cv,Nat.le_trans E.nx h1,fun id hi a b=>⟨(hg id (Nat.lt_of_lt_of_le hi E.nx)).trans (E.unm id hi a b).1,(E.unm id hi a b).2⟩,E.own⟩
theorem getD_false_of_true {l:Array Bool} {i:Nat} (h:l.getD i true=false):l.getD i false=false:=by
 rw[Array.getD_eq_getD_getElem?]at *
 cases hl:l[i]? with
 | none=>rfl
 | some b=>rw[hl]at h;exact h
theorem getD_in_bounds {l:Array Bool} {i:Nat} (h:l.getD i true=false):i<l.size:=by
 rcases Nat.lt_or_ge i l.size with h'|h'
 ·exact h'
 ·simp[Array.getD_eq_getD_getElem?,Array.getElem?_eq_none h']at h
theorem ready_spec {listed:Array Bool} {i:Nat} (h:i∈Region.ready .any ops listed):listed.getD i false=false∧i<listed.size∧∃ o,ops[i]?=some o∧∀ d∈depsOf ops i,listed.getD d false=true:=by
 obtain⟨h0,o,ho,hd⟩:=mem_ready.1 h
 refine⟨getD_false_of_true h0,getD_in_bounds h0,o,ho,fun d hd' => ?_⟩
 simp only[depsOf,ho,List.mem_map,List.mem_filter]at hd'
 obtain⟨e,⟨he,hb⟩,rfl⟩:=hd'
 exact hd e (by simpa using he) hb
theorem set_getD {listed:Array Bool} {i:Nat} (hi:i<listed.size) (j:Nat):(listed.setIfInBounds i true).getD j false=true↔j=i∨listed.getD j false=true:=by
 by_cases e:j=i
 ·subst e;simp[Array.getD_eq_getD_getElem?,hi]
 ·rw[getD_set_ne false (fun h=>e h.symm)]
  simp[e]
theorem Down.set {listed:Array Bool} (D:Down ops listed) {i:Nat} (hi:i<listed.size) (hd:∀ d∈depsOf ops i,listed.getD d false=true):Down ops (listed.setIfInBounds i true):=by
 intro j hj d hdj
 rcases(set_getD hi j).1 hj with rfl|hj
 ·exact(set_getD hi d).2 (.inr (hd d hdj))
 ·exact(set_getD hi d).2 (.inr (D j hj d hdj))
theorem pre_listed {listed:Array Bool} (D:Down ops listed) {i:Nat} (hr:i∈Region.ready .any ops listed) {j:Nat} (hp:preB (preM ops pl .e) i j=true) (hne:j≠i):listed.getD j false=true:=by
 obtain⟨_,hi,_,_,hd⟩:=ready_spec hr
 have:=preM_down (D.set hi hd) pl .e (fun i j h _=>by simp[preB,T.get_e]at h) i j hp ((set_getD hi i).2 (.inl rfl))
 exact((set_getD hi j).1 this).resolve_left hne
theorem Ext.weak {G:Gh} {w:World} {h:H} {G':Gh} {w':World} {h':H} (E:Ext G w h G' w' h') {k:Nat} (hk:k≤h.nx):Ext G w ⟨h.t,k⟩ G' w' h':=
 ⟨E.os,E.tape,E.output,E.size,E.base,E.still,E.part,E.ρ,E.cv,Nat.le_trans hk E.nx,fun id hi a b=>E.unm id (Nat.lt_of_lt_of_le hi hk) a b,E.own⟩
theorem Ext.cut {G:Gh} {w:World} {h:H} {G':Gh} {w':World} {h':H} (E:Ext G w h G' w' h'):Ext G w h G' w' ⟨h'.t,h.nx⟩:=
 ⟨E.os,E.tape,E.output,E.size,E.base,E.still,E.part,E.ρ,E.cv,Nat.le_refl _,E.unm,E.own⟩
theorem Act.defers_put (a:Act) (d:Option Tmp) (V:Value):(a.put d V).defers=a.defers:=by cases d<;>rfl
theorem getD_put {a:Act} {dst:Option Tmp} {V:Value} {t:Nat} (h:dst≠some t):(a.put dst V).tmps.getD t undef=a.tmps.getD t undef:=by
 cases dst with
 | none=>rfl
 | some d=>
  simp only[Act.put]
  rw[Array.getD_eq_getD_getElem?,Array.getD_eq_getD_getElem?,Array.getElem?_setIfInBounds_ne (fun e=>h (by rw[e]))]
theorem getD_put_same {a:Act} {d:Nat} {V:Value} (h:d<a.tmps.size):(a.put (some d) V).tmps.getD d undef=V:=by
 simp[Act.put,Array.getD_eq_getD_getElem?,h]
theorem DR.pending (hA:ActOk P ty call) (hN:AllocOk P ty) (PP:PlanP ops pl (preM ops pl .e)) {G:Gh} {w:World} {h:H} {tm:Tm} {a:Act} {listed:Array Bool} {done rest:List PE} {U:List Pd} (hpl:pl=done++rest)
  (D:DR ty n nx0 ops G w h tm a listed done U) {u:Pd} (hu:u∈U) (hi:u.i∈Region.ready .any ops listed) (Q:Exit→Act→World→Prop) (K:Act→World→Prop)
  (hK:∀ G' w' a' U',DR ty n nx0 ops G' w' h tm a' (listed.setIfInBounds u.i true) done U'→Ext G w ⟨h.t,nx0⟩ G' w' h→a'.defers=a.defers→K a' w'):wpOp P ops Q u.i K a w:=by
 obtain⟨hil,hib,o0,ho0,hdeps⟩:=ready_spec hi
 obtain⟨⟨o,v,ho,hqt,hdst,hk⟩,p,hp,hpi,hpe⟩:=D.pds u hu
 have hdu:dstOf ops u.i=o.dst:=by simp[dstOf,ho]
 obtain⟨A,B,hAB⟩:=List.append_of_mem hp
 have hself:=PP.self p (by rw[hpl];simp[hp])
 simp only[selfOk,hpe,Bool.false_or,Bool.and_eq_true,Bool.not_eq_true']at hself
 have hslots:∀ t∈looks ops u.i,∀ u'∈U,dstOf ops u'.i≠some t:=by
  intro t ht u' hu' hd'
  by_cases hsame:u'.i=u.i
  ·rw[hsame,←hpi]at hd'
   rw[←hpi]at ht
   have:=hself.2
   rw[hd']at this
   exact dstIn_no this ht
  ·obtain⟨_,p',hp',hpi',hpe'⟩:=D.pds u' hu'
   have hnotl:listed.getD u'.i false=false:=by
    cases hl:listed.getD u'.i false with
    | false=>rfl
    | true=>exact absurd rfl (((D.lst u'.i).1 hl).2 u' hu')
   have hor:(∃ A' B',pl=A'++p'::B'∧p∈B')∨(∃ A' B',pl=A'++p::B'∧p'∈B'):=by
    rw[hAB]at hp'
    rcases List.mem_append.1 hp' with h1|h1
    ·obtain⟨A1,B1,h2⟩:=List.append_of_mem h1
     exact .inl ⟨A1,B1++p::(B++rest),by rw[hpl,hAB,h2];simp,by simp⟩
    ·rcases List.mem_cons.1 h1 with h1|h1
     ·subst h1;exact absurd (hpi'.symm.trans hpi) hsame
     ·exact .inr ⟨A,B++rest,by rw[hpl,hAB];simp,by simp[h1]⟩
   rcases hor with ⟨A',B',e1,hin⟩|⟨A',B',e1,hin⟩
   ·have hpr:=(PP.pair A' p' B' e1 p hin).1
    simp only[pairOk,Bool.and_eq_true,Bool.or_eq_true,Bool.not_eq_true',Bool.or_eq_false_iff]at hpr
    rcases hpr.2.1 with ⟨c1,_⟩|c1
    ·rw[hpi',hpi,hd']at c1;exact dstIn_no c1 ht
    ·rw[hpi',hpi]at c1
     have:=pre_listed D.down hi c1 hsame
     rw[hnotl]at this;cases this
   ·have hpr:=(PP.pair A' p B' e1 p' hin).1
    simp only[pairOk,Bool.and_eq_true,Bool.or_eq_true,Bool.not_eq_true',Bool.or_eq_false_iff,hpe',Bool.false_eq_true,false_and,or_false]at hpr
    have c1:=hpr.2.2.1.1
    rw[hpi',hpi,hd']at c1
    exact dstIn_no c1 ht
 have hvals:∀ x∈o.op.operands,∀ y,val tm x=some y→VR G w (a.eval x) y:=by
  intro x hx y hy
  cases x with
  | tmp t=>exact D.vals t y hy (hslots t (looks_operand ho hx))
  | const c=>exact ofVal_VR G w hy
  | func f=>exact val_VR (a:=a) (tm := .e) (fun t v h=>by rw[T.get_e]at h;cases h) hy
  | global g=>simp[val]at hy
 have hguard:∀ j want,o.guard=some (j,want)→∀ d,(ops[j]?).bind (·.dst)=some d→∀ y,tm.get d=some y→VR G w (a.tmps.getD d undef) y:=
  fun j want hg d hd y hy=>D.vals d y hy (hslots d (looks_guard ho hg hd))
 have next:∀ {G':Gh} {w':World} {V:Value},Inv G' w' h→Ext G w ⟨h.t,nx0⟩ G' w' h→VR G' w' V v→(∀ x∈U,x.i≠u.i→∀ id,x.id=some id→G'.ρ id=none∧G'.cv id=none) →
   K (a.put o.dst V) w':=by
  intro G' w' V I' E' hV hids
  refine hK G' w' _ (U.filter fun x => !Nat.beq x.i u.i) ⟨I',by rw[size_put];exact D.sz,by rw[Array.size_setIfInBounds];exact D.lsz,D.down.set hib hdeps,fun t y hy hne => ?_,fun j => ?_,fun x hx => ?_,fun x hx id e => ?_,⟨D.nxl.1,fun x hx id e => ?_⟩,fun x hx y hy => ?_⟩ E' (Act.defers_put a _ V)
  ·by_cases hd:o.dst=some t
   ·obtain⟨_,h2⟩:=hdst t hd
    rw[h2]at hy
    simp only[Option.some.injEq]at hy
    subst hy
    rw[hd,getD_put_same (by rw[D.sz];exact(hdst t hd).1)]
    exact hV
   ·rw[getD_put hd]
    refine(D.vals t y hy fun x hx => ?_).mono E'
    by_cases e:x.i=u.i
    ·rw[e,hdu];exact hd
    ·exact hne x (List.mem_filter.2 ⟨hx,by rw[beq_no e];rfl⟩)
  ·rw[set_getD hib,D.lst j]
   constructor
   ·rintro(rfl|⟨h1,h2⟩)
    ·refine⟨⟨p,hp,hpi⟩,fun x hx e => ?_⟩
     have:=(List.mem_filter.1 hx).2
     rw[e,bV.2 rfl]at this
     cases this
    ·exact⟨h1,fun x hx=>h2 x (List.mem_filter.1 hx).1⟩
   ·rintro⟨h1,h2⟩
    by_cases e:j=u.i
    ·exact .inl e
    ·refine .inr ⟨h1,fun x hx e2 => ?_⟩
     by_cases e3:x.i=u.i
     ·exact e (e2.symm.trans e3)
     ·exact h2 x (List.mem_filter.2 ⟨hx,by rw[beq_no e3];rfl⟩) e2
  ·exact D.pds x (List.mem_filter.1 hx).1
  ·have hx':=List.mem_filter.1 hx
   refine hids x hx'.1 (fun e2 => ?_) id e
   have:=hx'.2
   rw[e2,bV.2 rfl]at this
   cases this
  ·exact D.nxl.2 x (List.mem_filter.1 hx).1 id e
  ·exact D.idn x (List.mem_filter.1 hx).1 y (List.mem_filter.1 hy).1
 unfold wpOp
 rw[ho]
 simp only
 rcases hk with ⟨b1,b2,b3⟩|⟨b1,b2,b3,b4⟩|⟨id,obj,vOf,b1,b2,b3,b4,b5,b6,b7⟩
 ·rw[wanted_eq hguard b2]
  simp only[Bool.false_eq_true,if_false]
  subst b3
  exact next D.inv ((Ext.refl G w h).weak D.nxl.1) (undef_VR G w) fun x hx _=>D.ids x hx
 ·rw[wanted_eq hguard b2]
  simp only[if_true]
  refine .inl (hA G w h tm a o v h D.inv hvals (by rw[quiet_act hqt];exact b4) K Q fun G' w' V I' E' hV => ?_)
  refine next I' (E'.weak D.nxl.1) hV fun x hx hne id e => ?_
  have hb:id<h.nx:=by
   obtain⟨⟨_,_,_,_,_,h4⟩,_⟩:=D.pds x hx
   rcases h4 with ⟨c1,_⟩|⟨c1,_⟩|⟨id',_,_,c1,_,_,c4,_⟩
   ·rw[c1]at e;cases e
   ·rw[c1]at e;cases e
   ·rw[c1]at e
    simp only[Option.some.injEq]at e
    omega
  obtain⟨c1,c2⟩:=D.ids x hx id e
  exact⟨(E'.unm id hb c1 c2).2.1,(E'.unm id hb c1 c2).2.2⟩
 ·rw[wanted_eq hguard b2]
  simp only[if_true]
  left
  obtain⟨c1,c2⟩:=D.ids u hu id b1
  obtain⟨V,q,G',e1,e2,e3⟩:=hN G w h tm a o obj vOf id D.inv b3 b7 hvals b4 c1 c2 b5
  unfold Oper.wp
  rw[e1]
  show K (a.put o.dst V) (w.alloc q)
  have hnid:nx0≤id:=D.nxl.2 u hu id b1
  refine next e2.inv (e2.ext ⟨h.t,nx0⟩ D.nxl.1 (fun j hj _ _=>by have:j<nx0:=hj;omega) (fun _ _=>rfl)) (by rw[b6];exact e3) fun x hx hne id' e => ?_
  obtain⟨d1,d2⟩:=D.ids x hx id' e
  have hne':id'≠id:=by
   rintro rfl
   exact D.idn u hu x hx (fun e''=>hne e''.symm) id' b1 e
  exact⟨by rw[e2.ρ id' hne'];exact d1,by rw[e2.cv id' hne'];exact d2⟩
end
end Go.Ev
namespace Go.Ev
variable [Inhabited KA0] [MT]
section
variable {P:Program} {ty:Nat→Option TyI} {call:fO} {n nx0:Nat} {ops:Array Oper} {pl:List PE} {m:T Nat}
theorem DR.acts (hA:ActOk P ty call) (PP:PlanP ops pl (preM ops pl .e)) {G:Gh} {w:World} {h:H} {tm:Tm} {a:Act} {listed:Array Bool} {done r:List PE} {U:List Pd} {q:PE} (hpl:pl=done++q::r)
  (D:DR ty n nx0 ops G w h tm a listed done U) (hq:q.eff=true) (hi:q.i∈Region.ready .any ops listed) {res:Tm × H} (he:bI call ty n ops (q::r) tm h=some res)
  (Q:Exit→Act→World→Prop) (K:Act→World→Prop)
  (hK:∀ G' w' h' tm' a',DR ty n nx0 ops G' w' h' tm' a' (listed.setIfInBounds q.i true) (done++[q]) U→Ext G w ⟨h.t,nx0⟩ G' w' h'→a'.defers=a.defers→bI call ty n ops r tm' h'=some res→K a' w') :
  wpOp P ops Q q.i K a w:=by
 obtain⟨hil,hib,o,ho,hdeps⟩:=ready_spec hi
 simp only[bI,ho]at he
 cases h1:aX call ty n ops o tm h with
 | none=>rw[h1]at he;simp at he
 | some p=>
  obtain⟨tm1,g1⟩:=p
  rw[h1]at he
  simp only at he
  cases hrc:recheck ty ops tm1 g1 q.chk with
  | false=>rw[hrc]at he;simp at he
  | true=>
   rw[hrc]at he
   simp only[cond_true]at he
   have hdq:dstOf ops q.i=o.dst:=by simp[dstOf,ho]
   have hnotl:∀ u∈U,listed.getD u.i false=false:=by
    intro u hu
    cases hl:listed.getD u.i false with
    | false=>rfl
    | true=>exact absurd rfl (((D.lst u.i).1 hl).2 u hu)
   have hprs:∀ u∈U,∃ p,p.i=u.i∧p.eff=false∧pairOk ops (preM ops pl .e) p q=true∧u.i≠q.i:=by
    intro u hu
    obtain⟨_,p,hp,hpi,hpe⟩:=D.pds u hu
    obtain⟨A,B,hAB⟩:=List.append_of_mem hp
    obtain⟨k1,k2⟩:=PP.pair A p (B++q::r) (by rw[hpl,hAB];simp) q (by simp)
    exact⟨p,hpi,hpe,k1,fun e=>k2 (by rw[hpi,e])⟩
   have hnpre:∀ u∈U,preB (preM ops pl .e) q.i u.i=false:=by
    intro u hu
    cases hb:preB (preM ops pl .e) q.i u.i with
    | false=>rfl
    | true=>
     obtain⟨_,_,_,_,hne⟩:=hprs u hu
     have:=pre_listed D.down hi hb hne
     rw[hnotl u hu]at this
     cases this
   have hslots:∀ t∈looks ops q.i,∀ u∈U,dstOf ops u.i≠some t:=by
    intro t ht u hu hd
    obtain⟨p,hpi,hpe,hpr,_⟩:=hprs u hu
    simp only[pairOk,Bool.and_eq_true,Bool.or_eq_true,Bool.not_eq_true',Bool.or_eq_false_iff]at hpr
    rcases hpr.2.1 with ⟨c1,_⟩|c1
    ·rw[hpi,hd]at c1;exact dstIn_no c1 ht
    ·rw[hpi,hnpre u hu]at c1;cases c1
   have hold:∀ u∈U,(∀ t∈looks ops u.i,o.dst≠some t)∧∀ d,dstOf ops u.i=some d→o.dst≠some d:=by
    intro u hu
    obtain⟨p,hpi,hpe,hpr,_⟩:=hprs u hu
    simp only[pairOk,Bool.and_eq_true,Bool.or_eq_true,Bool.not_eq_true',Bool.or_eq_false_iff]at hpr
    rcases hpr.2.2.1 with ⟨c1,c2⟩|⟨_,c1⟩
    ·rw[hdq,hpi]at c1 c2
     refine⟨fun t ht e => ?_,fun d hd e => ?_⟩
     ·rw[e]at c1;exact dstIn_no c1 ht
     ·rw[e,hd]at c2;simp[dstSame]at c2
    ·rw[hpi,hnpre u hu]at c1;cases c1
   have hchk:∀ u∈U,opB readB ops u.i=true→recheck ty ops tm1 g1 [u.i]=true:=by
    intro u hu hr
    obtain⟨p,hpi,hpe,hpr,_⟩:=hprs u hu
    simp only[pairOk,Bool.and_eq_true,Bool.or_eq_true,Bool.not_eq_true',hpe,hq,Bool.false_eq_true,false_or,or_false,Bool.true_eq_false]at hpr
    rcases hpr.2.2.2 with (c1|c1)|c1
    ·rw[hpi,hr]at c1;cases c1
    ·rw[hpi,hnpre u hu]at c1;cases c1
    ·exact recheck_mem hrc u.i (by rw[←hpi];exact List.contains_iff_mem.1 c1)
   have hvals:∀ x∈o.op.operands,∀ y,val tm x=some y→VR G w (a.eval x) y:=by
    intro x hx y hy
    cases x with
    | tmp t=>exact D.vals t y hy (hslots t (looks_operand ho hx))
    | const c=>exact ofVal_VR G w hy
    | func f=>exact val_VR (a:=a) (tm := .e) (fun t v h=>by rw[T.get_e]at h;cases h) hy
    | global g=>simp[val]at hy
   have hguard:∀ j want,o.guard=some (j,want)→∀ d,(ops[j]?).bind (·.dst)=some d→∀ y,tm.get d=some y→VR G w (a.tmps.getD d undef) y:=
    fun j want hg d hd y hy=>D.vals d y hy (hslots d (looks_guard ho hg hd))
   have idlt:∀ u∈U,∀ id,u.id=some id→id<h.nx:=by
    intro u hu id e
    obtain⟨⟨_,_,_,_,_,h4⟩,_⟩:=D.pds u hu
    rcases h4 with ⟨c1,_⟩|⟨c1,_⟩|⟨id',_,_,c1,_,_,c4,_⟩
    ·rw[c1]at e;cases e
    ·rw[c1]at e;cases e
    ·rw[c1]at e
     simp only[Option.some.injEq]at e
     omega
   have next:∀ {G':Gh} {w':World} {V:Value} {v:AV},Inv G' w' g1→Ext G w h G' w' g1→VR G' w' V v→aZ n o.dst v tm=some tm1→K (a.put o.dst V) w':=by
    intro G' w' V v I' E' hV hput
    obtain⟨g_ne,g_eq⟩:=putTm_get hput
    refine hK G' w' g1 tm1 _ ⟨I',by rw[size_put];exact D.sz,by rw[Array.size_setIfInBounds];exact D.lsz,D.down.set hib hdeps,fun t y hy hne => ?_,fun j => ?_,fun u hu => ?_,fun u hu id e => ?_,⟨Nat.le_trans D.nxl.1 E'.nx,D.nxl.2⟩,D.idn⟩ (E'.weak D.nxl.1) (Act.defers_put a _ V) he
    ·by_cases hd:o.dst=some t
     ·obtain⟨h2,h3⟩:=g_eq t hd
      rw[h3]at hy
      simp only[Option.some.injEq]at hy
      subst hy
      rw[hd,getD_put_same (by rw[D.sz];exact h2)]
      exact hV
     ·rw[getD_put hd]
      rw[g_ne t hd]at hy
      exact(D.vals t y hy hne).mono E'
    ·rw[set_getD hib,D.lst j]
     constructor
     ·rintro(rfl|⟨⟨p,hp,e⟩,h2⟩)
      ·refine⟨⟨q,by simp,rfl⟩,fun u hu e => ?_⟩
       obtain⟨_,_,_,_,hne⟩:=hprs u hu
       exact hne e
      ·exact⟨⟨p,by simp[hp],e⟩,h2⟩
     ·rintro⟨⟨p,hp,e⟩,h2⟩
      rcases List.mem_append.1 hp with hp|hp
      ·exact .inr ⟨⟨p,hp,e⟩,h2⟩
      ·simp only[List.mem_singleton]at hp
       subst hp
       exact .inl e.symm
    ·obtain⟨k1,p,hp,k2,k3⟩:=D.pds u hu
     obtain⟨o1,o2⟩:=hold u hu
     refine⟨k1.eff (fun t ht=>g_ne t (o1 t ht)) (fun d hd=>g_ne d (o2 d hd)) E'.nx (fun id e => ?_) (hchk u hu),p,by simp[hp],k2,k3⟩
     obtain⟨c1,c2⟩:=D.ids u hu id e
     exact(E'.unm id (idlt u hu id e) c1 c2).1
    ·obtain⟨c1,c2⟩:=D.ids u hu id e
     obtain⟨_,c3,c4⟩:=E'.unm id (idlt u hu id e) c1 c2
     exact⟨c3,c4⟩
   unfold wpOp
   rw[ho]
   simp only
   rcases evOne_some h1 with ⟨a1,a2,rfl⟩|⟨v,a1,a2,a3⟩
   ·rw[wanted_eq hguard a1]
    simp only[Bool.false_eq_true,if_false]
    exact next D.inv (Ext.refl G w _) (undef_VR G w) a2
   ·rw[wanted_eq hguard a1]
    simp only[if_true]
    exact .inl (hA G w h tm a o v g1 D.inv hvals a2 K Q fun G' w' V I' E' hV=>next I' E' hV a3)
theorem count_set:∀ (l:List Bool) (k:Nat),l[k]?=some false→((l.set k true).filter (· == false)).length+1=(l.filter (· == false)).length
 | [],k,hk=>by simp at hk
 | b::l,0,hk=>by simp at hk;subst hk;simp
 | b::l,k+1,hk=>by
  simp at hk
  have:=count_set l k hk
  cases b<;>simp_all
theorem all_listed {G:Gh} {w:World} {h:H} {tm:Tm} {a:Act} {listed:Array Bool} {done:List PE} {U:List Pd} (PP:PlanP ops pl m)
  (D:DR ty n nx0 ops G w h tm a listed done U) (hr:Region.ready .any ops listed=[]):∀ i,i<ops.size→listed.getD i false=true:=by
 have key:∀ (B A:List PE),pl=A++B→(∀ p∈A,listed.getD p.i false=true)→∀ p∈B,listed.getD p.i false=true:=by
  intro B
  induction B with
  | nil=>intro A _ _ p hp;simp at hp
  | cons q B ih=>
   intro A hAB hA' p hp
   have hq:listed.getD q.i false=true:=by
    cases hl:listed.getD q.i false with
    | true=>rfl
    | false=>
     have hlt:=PP.range q (by rw[hAB];simp)
     obtain⟨o,ho⟩:∃ o,ops[q.i]?=some o:=⟨_,Array.getElem?_eq_getElem hlt⟩
     have hmem:q.i∈Region.ready .any ops listed:=by
      refine mem_ready.2 ⟨?_,o,ho,fun e he hb => ?_⟩
      ·have:q.i<listed.size:=by rw[D.lsz];exact hlt
       rw[Array.getD_eq_getD_getElem?,Array.getElem?_eq_getElem this]at hl ⊢
       exact hl
      ·have hd:e.on∈depsOf ops q.i:=by
        simp only[depsOf,ho,List.mem_map,List.mem_filter]
        exact⟨e,⟨by simpa using he,hb⟩,rfl⟩
       obtain⟨p',hp',e'⟩:=PP.topo A q B hAB e.on hd
       rw[←e']
       exact hA' p' hp'
     rw[hr]at hmem
     simp at hmem
   rcases List.mem_cons.1 hp with rfl|hp
   ·exact hq
   ·refine ih (A++[q]) (by rw[hAB];simp) (fun p' hp' => ?_) p hp
    rcases List.mem_append.1 hp' with h|h
    ·exact hA' p' h
    ·simp only[List.mem_singleton]at h
     subst h
     exact hq
 intro i hi
 obtain⟨p,hp,rfl⟩:=PP.cover i hi
 exact key pl [] rfl (fun p hp=>by simp at hp) p hp
theorem all_done {G:Gh} {w:World} {h:H} {tm:Tm} {a:Act} {listed:Array Bool} {done rest:List PE} {U:List Pd} (PP:PlanP ops pl m) (hpl:pl=done++rest)
  (D:DR ty n nx0 ops G w h tm a listed done U) (hall:∀ i,i<ops.size→listed.getD i false=true):rest=[]∧U=[]:=by
 constructor
 ·cases rest with
  | nil=>rfl
  | cons q r=>
   have hq:=hall q.i (PP.range q (by rw[hpl];simp))
   obtain⟨⟨p,hp,e⟩,_⟩:=(D.lst q.i).1 hq
   obtain⟨A,B,hAB⟩:=List.append_of_mem hp
   exact absurd e.symm (PP.pair A p (B++q::r) (by rw[hpl,hAB];simp) q (by simp)).2
 ·cases U with
  | nil=>rfl
  | cons u U=>
   obtain⟨⟨o,v,ho,_⟩,_⟩:=D.pds u (by simp)
   have:=(D.lst u.i).1 (hall u.i (Array.getElem?_eq_some_iff.1 ho).1)
   exact absurd rfl (this.2 u (by simp))
theorem draw_any (hA:ActOk P ty call) (hN:AllocOk P ty) (PP:PlanP ops pl (preM ops pl .e)) {res:Tm × H} {G0:Gh} {w0:World} {h0:H} {df:List Deferred} {Q:Exit→Act→World→Prop}
  (hQ:∀ G' w' a',Inv G' w' res.2→Ext G0 w0 h0 G' w' res.2→TmR G' w' n res.1 a'→a'.defers=df→Q .normal a' w') :
  ∀ (fuel:Nat) {G:Gh} {w:World} {h:H} {tm:Tm} {a:Act} {listed:Array Bool} {done rest:List PE} {U:List Pd},
   pl=done++rest→Norm rest→DR ty n h0.nx ops G w h tm a listed done U→Ext G0 w0 h0 G w h→a.defers=df→bI call ty n ops rest tm h=some res →
   (listed.toList.filter (· == false)).length≤fuel→wpAny P .any ops Q fuel listed a w:=by
 intro fuel
 have hfin:∀ {G:Gh} {w:World} {h:H} {tm:Tm} {a:Act} {listed:Array Bool} {done rest:List PE} {U:List Pd},
   pl=done++rest→DR ty n h0.nx ops G w h tm a listed done U→Ext G0 w0 h0 G w h→a.defers=df→bI call ty n ops rest tm h=some res→(∀ i,i<ops.size→listed.getD i false=true)→Q .normal a w:=by
  intro G w h tm a listed done rest U hpl D E hdf he hall
  obtain⟨rfl,rfl⟩:=all_done PP hpl D hall
  simp only[bI,Option.some.injEq]at he
  subst he
  exact hQ G w a D.inv E ⟨D.sz,fun t v ht=>D.vals t v ht fun u hu=>by simp at hu⟩ hdf
 induction fuel with
 | zero=>
  intro G w h tm a listed done rest U hpl hn D E hdf he hc
  have hall:∀ i,i<ops.size→listed.getD i false=true:=by
   intro i hi
   have hz:listed.toList.filter (· == false)=[]:=List.eq_nil_of_length_eq_zero (by omega)
   have hlt:i<listed.size:=by rw[D.lsz];exact hi
   have h1:listed[i] ∉ listed.toList.filter (· == false):=by rw[hz];simp
   rw[Array.getD_eq_getD_getElem?,Array.getElem?_eq_getElem hlt]
   show listed[i]=true
   cases hb:listed[i]with
   | true=>rfl
   | false=>exact absurd (List.mem_filter.2 ⟨by simp,by rw[hb];rfl⟩) h1
  refine⟨?_,hfin hpl D E hdf he hall⟩
  apply List.eq_nil_iff_forall_not_mem.2
  intro i hi
  obtain⟨h1,h2,_⟩:=ready_spec hi
  rw[hall i (by rw[←D.lsz];exact h2)]at h1
  cases h1
 | succ fuel ih=>
  intro G w h tm a listed done rest U hpl hn D E hdf he hc
  refine⟨fun hr=>hfin hpl D E hdf he (all_listed PP D hr),fun i hi => ?_⟩
  obtain⟨hil,hib,o,ho,hdeps⟩:=ready_spec hi
  have hcount:((listed.setIfInBounds i true).toList.filter (· == false)).length≤fuel:=by
   have e:listed[i]=false:=by
    rw[Array.getD_eq_getD_getElem?,Array.getElem?_eq_getElem hib]at hil
    exact hil
   have:=count_set listed.toList i (by rw[Array.getElem?_toList,Array.getElem?_eq_getElem hib,e])
   rw[Array.toList_setIfInBounds]
   omega
  by_cases hU:∃ u∈U,u.i=i
  ·obtain⟨u,hu,rfl⟩:=hU
   exact D.pending hA hN PP hpl hu hi Q _ fun G' w' a' U' D' E' hd'=>ih hpl hn D' (E.cut.trans E') (hd'.trans hdf) he hcount
  ·cases rest with
   | nil=>
    obtain⟨p,hp,e⟩:=PP.cover i (Array.getElem?_eq_some_iff.1 ho).1
    rw[hpl,List.append_nil]at hp
    have:=(D.lst i).2 ⟨⟨p,hp,e⟩,fun u hu e2=>hU ⟨u,hu,e2⟩⟩
    rw[hil]at this
    cases this
   | cons q r=>
    have hq:q.eff=true:=hn
    have hiq:i=q.i:=by
     obtain⟨p,hp,e⟩:=PP.cover i (Array.getElem?_eq_some_iff.1 ho).1
     rw[hpl]at hp
     rcases List.mem_append.1 hp with hp|hp
     ·have:=(D.lst i).2 ⟨⟨p,hp,e⟩,fun u hu e2=>hU ⟨u,hu,e2⟩⟩
      rw[hil]at this
      cases this
     ·rcases List.mem_cons.1 hp with rfl|hp
      ·exact e.symm
      ·obtain⟨k1,k2⟩:=PP.pair done q r hpl p hp
       simp only[pairOk,Bool.and_eq_true,Bool.or_eq_true,Bool.not_eq_true',hq,Bool.true_eq_false,false_or]at k1
       have:=pre_listed D.down hi (by rw[←e];exact k1.1) (by rw[←e];exact fun e2=>k2 e2.symm)
       obtain⟨⟨p',hp',e'⟩,_⟩:=(D.lst q.i).1 this
       obtain⟨A,B,hAB⟩:=List.append_of_mem hp'
       exact absurd e'.symm (PP.pair A p' (B++q::r) (by rw[hpl,hAB];simp) q (by simp)).2
    subst hiq
    refine D.acts hA PP hpl hq hi he Q _ fun G' w' h' tm' a' D' E' hd' he' => ?_
    obtain⟨done',rest',tm2,h2,U2,k1,k2,k3,k4,k5,k6⟩:=DR.normal PP r (by rw[hpl];simp) D' he'
    exact ih k1 k2 k3 ((E.cut.trans E').more k5 k6) (hd'.trans hdf) k4 hcount
theorem draw_sim0 (hA:ActOk P ty call) (hN:AllocOk P ty) (hp:planOk ops pl=true) {G:Gh} {w:World} {h:H} {tm:Tm} {a:Act} (I:Inv G w h) (T:TmR G w n tm a)
  {res:Tm × H} (he:bI call ty n ops pl tm h=some res) (Q:Exit→Act→World→Prop)
  (hQ:∀ G' w' a',Inv G' w' res.2→Ext G w h G' w' res.2→TmR G' w' n res.1 a'→a'.defers=a.defers→Q .normal a' w'):wpAny P .any ops Q ops.size (Array.replicate ops.size false) a w.drew:=by
 have PP:=planOk_spec hp
 have D0:DR ty n h.nx ops G w.drew h tm a (Array.replicate ops.size false) [] []:=by
  refine⟨drew_inv I,T.size,by simp,fun i hi => ?_,fun t v ht _=>(T.val t v ht).mono (drew_ext G w h),fun i => ?_,fun u hu=>by simp at hu,fun u hu=>by simp at hu,⟨Nat.le_refl _,fun u hu=>by simp at hu⟩,fun u hu=>by simp at hu⟩
  ·have:(Array.replicate ops.size false).getD i false=false:=by
    rw[Array.getD_eq_getD_getElem?,Array.getElem?_replicate]
    split<;>rfl
   rw[this]at hi;cases hi
  ·have:(Array.replicate ops.size false).getD i false=false:=by
    rw[Array.getD_eq_getD_getElem?,Array.getElem?_replicate]
    split<;>rfl
   rw[this]
   constructor
   ·intro e;cases e
   ·rintro⟨⟨p,hp,_⟩,_⟩;simp at hp
 obtain⟨done',rest',tm2,h2,U2,k1,k2,k3,k4,k5,k6⟩:=DR.normal PP pl rfl D0 he
 refine draw_any (h0:=h) (G0:=G) (w0:=w) hA hN PP (fun G' w' a' I' E' T' hd=>hQ G' w' a' I' E' T' hd) ops.size k1 k2 k3 ((drew_ext G w h).more k5 k6) rfl k4 ?_
 simp
theorem draw_sim (hA:ActOk P ty call) (hN:AllocOk P ty) (hm:P.follows .mixedOrders=true) (hp:planOk ops pl=true) {G:Gh} {w:World} {h:H} {tm:Tm} {a:Act} (I:Inv G w h) (T:TmR G w n tm a)
  {res:Tm × H} (he:bI call ty n ops pl tm h=some res) (id:Nat) (Q:Exit→Act→World→Prop)
  (hQ:∀ G' w' a',Inv G' w' res.2→Ext G w h G' w' res.2→TmR G' w' n res.1 a'→a'.defers=a.defers→Q .normal a' w'):(Code.region id ops true).wp P Q a w:=
 wp_region_any hm (draw_sim0 hA hN hp I T he Q hQ)
end
end Go.Ev
