/- tree.Free as a primitive: the machine runs all but the sorting. -/
import Derived.Test.YtogjplcnmibnlaaGreatDoorCA
set_option autoImplicit false
set_option maxRecDepth 100000
set_option linter.unusedSimpArgs false
set_option linter.unusedVariables false
set_option linter.unusedSectionVars false
set_option maxHeartbeats 1000000
namespace Go.Proofs.YtogjplcnmibnlaaGreatDoor.Env
open Go.Ev
def toB (s:List Nat):List UInt8:=s.map UInt8.ofNat
def ofB (b:List UInt8):List Nat:=b.map (·.toNat)
abbrev sortB (l:List (List UInt8)):List (List UInt8):=l.mergeSort fun x y=>decide (x≤y)
theorem nl_irr:∀ a:List Nat,cO a a=false
 | []=>rfl
 | a::l=>by simp only[cO,nl_irr l,Bool.and_false,Bool.or_false];exact Bool.eq_false_iff.2 fun h=>by rw[Nat.blt_eq]at h;omega
theorem nl_tr:∀ {a b c:List Nat},cO a b=true→cO b c=true→cO a c=true
 | _,[],_,h,_=>by cases ‹List Nat›<;>simp[cO]at h
 | _,_::_,[],_,h=>by simp[cO]at h
 | [],_::_,_::_,_,_=>rfl
 | a::x,b::y,c::z,h1,h2=>by
  simp only[cO,Bool.or_eq_true,Bool.and_eq_true,Nat.blt_eq,Nat.beq_eq]at h1 h2 ⊢
  rcases h1 with h1|⟨e1,h1⟩<;>rcases h2 with h2|⟨e2,h2⟩
  ·exact .inl (by omega)
  ·exact .inl (by omega)
  ·exact .inl (by omega)
  ·exact .inr ⟨by omega,nl_tr h1 h2⟩
theorem nl_as {a b:List Nat} (h:cO a b=true):cO b a=false:=by
 cases hb:cO b a with
 | false=>rfl
 | true=>have:=nl_tr h hb;rw[nl_irr]at this;cases this
theorem nl_tot:∀ {a b:List Nat},cO a b=false→cO b a=false→a=b
 | [],[],_,_=>rfl
 | [],_::_,h,_=>by simp[cO]at h
 | _::_,[],_,h=>by simp[cO]at h
 | a::x,b::y,h1,h2=>by
  simp only[cO,Bool.or_eq_false_iff,Bool.and_eq_false_iff]at h1 h2
  have e1:¬ a<b:=fun h=>by have:=h1.1;rw[show Nat.blt a b=true from by rw[Nat.blt_eq];exact h]at this;cases this
  have e2:¬ b<a:=fun h=>by have:=h2.1;rw[show Nat.blt b a=true from by rw[Nat.blt_eq];exact h]at this;cases this
  have e:a=b:=by omega
  subst e
  have hb:Nat.beq a a=true:=by rw[Nat.beq_eq]
  rcases h1.2 with h|h
  ·rw[hb]at h;cases h
  ·rcases h2.2 with k|k
   ·rw[hb]at k;cases k
   ·rw[nl_tot h k]
theorem ofB_toB {s:List Nat} (h:∀ x∈s,x<256):ofB (toB s)=s:=by
 unfold ofB toB
 rw[List.map_map]
 conv=>rhs;rw[←List.map_id s]
 refine List.map_congr_left fun x hx => ?_
 have:=h x hx
 simp[Function.comp,UInt8.toNat_ofNat',Nat.mod_eq_of_lt this]
theorem toB_ofB (b:List UInt8):toB (ofB b)=b:=by
 unfold ofB toB
 rw[List.map_map]
 conv=>rhs;rw[←List.map_id b]
 exact List.map_congr_left fun x _=>by simp
theorem ofB_lt (b:List UInt8):∀ x∈ofB b,x<256:=by
 intro x hx
 obtain⟨y,_,rfl⟩:=List.mem_map.1 hx
 exact y.toNat_lt
theorem lt_iff:∀ a b:List UInt8,cO (ofB a) (ofB b)=true↔a<b
 | [],[]=>by simp[ofB,cO]
 | [],_::_=>by simp[ofB,cO]
 | _::_,[]=>by simp[ofB,cO]
 | a::x,b::y=>by
  have:=lt_iff x y
  unfold ofB at this
  rw[List.cons_lt_cons_iff,←this]
  simp only[ofB,List.map_cons,cO,Bool.or_eq_true,Bool.and_eq_true,Nat.blt_eq,Nat.beq_eq,UInt8.lt_iff_toNat_lt]
  rw[UInt8.toNat_inj]
theorem le_iff (a b:List UInt8):cO (ofB b) (ofB a)=false↔a≤b:=by
 rw[←List.not_lt,←lt_iff]
 cases cO (ofB b) (ofB a)<;>simp
theorem le_rf (a:List UInt8):a≤a:=(le_iff a a).1 (nl_irr _)
theorem le_an (a b:List UInt8) (h1:a≤b) (h2:b≤a):a=b:=by
 have:=nl_tot ((le_iff _ _).2 h2) ((le_iff _ _).2 h1)
 rw[←toB_ofB a,←toB_ofB b,this]
theorem le_tr (a b c:List UInt8) (h1:a≤b) (h2:b≤c):a≤c:=by
 rw[←le_iff]at h1 h2 ⊢
 cases hb:cO (ofB c) (ofB a)with
 | false=>rfl
 | true=>
  cases h3:cO (ofB a) (ofB b)with
  | true=>rw[nl_tr hb h3]at h2;cases h2
  | false=>rw[nl_tot h3 h1]at hb;rw[hb]at h2;cases h2
theorem le_tot (a b:List UInt8):a≤b∨b≤a:=by
 rw[←le_iff,←le_iff]
 cases hb:cO (ofB b) (ofB a)with
 | false=>exact .inl rfl
 | true=>exact .inr (nl_as hb)
theorem sortB_sorted (zs:List (List UInt8)):(sortB zs).Pairwise fun x y=>x≤y:=by
 have:=List.pairwise_mergeSort (le:=fun x y:List UInt8=>decide (x≤y)) (fun a b c h1 h2=>by simp only[decide_eq_true_eq]at *;exact le_tr a b c h1 h2) (fun a b=>by simp only[Bool.or_eq_true,decide_eq_true_eq];exact le_tot a b) zs
 exact List.Pairwise.imp (fun h=>by simpa using h) this
theorem bytes_of (z:List UInt8):bytesOf ⟨z.toArray⟩=ofB z:=by simp[bytesOf,ofB]
theorem enc_VR (G:Gh) (w:World) (z:List UInt8):VR G w (Go.Proofs.encStr z) (.str (ofB z)):=by
 rw[←bytes_of]
 exact .str ⟨z.toArray⟩
theorem enc_inv (G:Gh) (w:World) (V:Value) (z:List UInt8) (r:VR G w V (.str (ofB z))):V=Go.Proofs.encStr z:=by
 generalize he:ofB z=l at r
 cases r with
 | str s=>
  have:s.data.toList=z:=by
   have e:toB (bytesOf s)=toB (ofB z):=by rw[he]
   rw[toB_ofB]at e
   rw[←e]
   exact(toB_ofB s.data.toList).symm
  show Value.string s = .string ⟨z.toArray⟩
  rw[←this]
def insN (v:List Nat):List (List Nat)→List (List Nat)
 | []=>[v]
 | a::l=>bif cO v a then v::a::l else bif aB v a then a::l else a::insN v l
def sortN:List (List Nat)→List (List Nat)
 | []=>[]
 | a::l=>insN a (sortN l)
theorem insN_mem (v:List Nat):∀ (l:List (List Nat)) (x:List Nat),x∈insN v l↔x=v∨x∈l
 | [],x=>by simp[insN]
 | a::l,x=>by
  simp only[insN]
  cases h1:cO v a with
  | true=>simp
  | false=>
   cases h2:aB v a with
   | true=>
    rw[fX]at h2
    have:v=a:=by simpa using h2
    subst this
    simp
   | false=>
    simp only[cond_false,List.mem_cons,insN_mem v l x]
    constructor
    ·rintro(h|h|h)<;>simp[h]
    ·rintro(h|h|h)<;>simp[h]
theorem insN_up (v:List Nat):∀ (l:List (List Nat)),l.Pairwise (fun x y=>cO x y=true)→(insN v l).Pairwise (fun x y=>cO x y=true)
 | [],_=>by simp[insN]
 | a::l,h=>by
  have h':=List.pairwise_cons.1 h
  simp only[insN]
  cases h1:cO v a with
  | true=>
   refine List.pairwise_cons.2 ⟨fun x hx => ?_,h⟩
   rcases List.mem_cons.1 hx with rfl|hx
   ·exact h1
   ·exact nl_tr h1 (h'.1 x hx)
  | false=>
   cases h2:aB v a with
   | true=>exact h
   | false=>
    rw[fX]at h2
    have hne:v≠a:=by simpa using h2
    simp only[cond_false]
    refine List.pairwise_cons.2 ⟨fun x hx => ?_,insN_up v l h'.2⟩
    rcases(insN_mem v l x).1 hx with rfl|hx
    ·cases h3:cO a x with
     | true=>rfl
     | false=>exact absurd (nl_tot h1 h3) hne
    ·exact h'.1 x hx
theorem sortN_up:∀ l,(sortN l).Pairwise (fun x y=>cO x y=true)
 | []=>List.Pairwise.nil
 | a::l=>insN_up a _ (sortN_up l)
theorem sortN_mem:∀ (l:List (List Nat)) (x:List Nat),x∈sortN l↔x∈l
 | [],x=>by simp[sortN]
 | a::l,x=>by simp only[sortN,insN_mem,sortN_mem l x,List.mem_cons]
theorem sortN_eq (zs:List (List UInt8)):(Lib.compact (sortB zs)).map ofB=sortN (zs.map ofB):=by
 obtain⟨q1,q2⟩:=compact_sorted le_rf le_tr le_an (sortB_sorted zs)
 have hm:∀ x∈sortN (zs.map ofB),ofB (toB x)=x:=by
  intro x hx
  rw[sortN_mem]at hx
  obtain⟨z,_,rfl⟩:=List.mem_map.1 hx
  rw[toB_ofB]
 have e1:((sortN (zs.map ofB)).map toB).map ofB=sortN (zs.map ofB):=by
  rw[List.map_map]
  conv=>rhs;rw[←List.map_id (sortN (zs.map ofB))]
  exact List.map_congr_left fun x hx=>hm x hx
 rw[←e1]
 congr 1
 refine strict_eq (le:=fun x y:List UInt8=>x≤y) le_an q1 ?_ fun x => ?_
 ·rw[List.pairwise_map]
  refine List.Pairwise.imp_of_mem (fun {a b} ha hb h => ?_) (sortN_up (zs.map ofB))
  refine⟨(le_iff _ _).1 ?_,fun e => ?_⟩
  ·rw[hm a ha,hm b hb]
   exact nl_as h
  ·have:a=b:=by rw[←hm a ha,←hm b hb,e]
   rw[this,nl_irr]at h
   cases h
 ·rw[q2,List.mem_mergeSort]
  constructor
  ·intro hx
   exact List.mem_map.2 ⟨ofB x,(sortN_mem _ _).2 (List.mem_map.2 ⟨x,hx,rfl⟩),toB_ofB x⟩
  ·intro hx
   obtain⟨y,hy,rfl⟩:=List.mem_map.1 hx
   rw[sortN_mem]at hy
   obtain⟨z,hz,rfl⟩:=List.mem_map.1 hy
   rw[toB_ofB]
   exact hz
def strsOf:List AV→Option (List (List UInt8))
 | []=>some []
 | .str s::l=>match strsOf l with
  | none=>none
  | some m=>bif s.all (fun x=>Nat.blt x 256)then some (toB s::m)else none
 | _::_=>none
theorem strsOf_some:∀ {l:List AV} {m:List (List UInt8)},strsOf l=some m→l=m.map fun z=>AV.str (ofB z)
 | [],m,h=>by simp[strsOf]at h;subst h;rfl
 | a::l,m,h=>by
  unfold strsOf at h
  split at h
  ·rename_i heq;cases heq
  ·rename_i s l' heq
   cases heq
   cases hm:strsOf l with
   | none=>rw[hm]at h;simp at h
   | some q=>
    rw[hm]at h
    simp only at h
    cases hs:s.all (fun x=>Nat.blt x 256)with
    | false=>rw[hs]at h;simp at h
    | true=>
     rw[hs]at h
     simp only[cond_true,Option.some.injEq]at h
     subst h
     rw[strsOf_some hm,List.map_cons,ofB_toB fun x hx=>cR.1 (List.all_eq_true.1 hs x hx)]
  ·cases h
theorem sortC40:SortC Tryz.prog Go.Proofs.encStr sortB 40 where
 fn:=⟨_,Tryz.func40,by kernel_rfl,by kernel_rfl⟩
 len:=fun zs=>List.length_mergeSort zs
 nil:=by simp[sortB]
 row:=fun g cap zs w hH hg hl=>calls_of_every_depth fun D=>AnyS.slices_Sort_string_alone Tryz.lays190 D g 0 cap zs w hH hg hl
 none:=fun p cap w=>calls_of_every_depth fun D=>AnyS.slices_Sort_string_none_alone Tryz.lays190 D p cap w
theorem compC41:CompC Tryz.prog Go.Proofs.encStr ([]:List UInt8) 41 where
 fn:=⟨_,Tryz.func41,by kernel_rfl,by kernel_rfl⟩
 row:=fun g cap zs w hH hl hc=>calls_of_every_depth fun D=>AnyS.slices_Compact_string_in Tryz.lays194 D g 0 cap zs w hH hl hc
 none:=fun p cap w=>calls_of_every_depth fun D=>AnyS.slices_Compact_string_empty_in Tryz.lays194 D p cap w
noncomputable def b21_0:Code:=aK Tryz.f21 0
noncomputable def pre21:Code := .seq (aC Tryz.f21 [0]) (.seq (aC Tryz.f21 [1,0]) (.seq (aC Tryz.f21 [1,1,0]) (.seq (aC Tryz.f21 [1,1,1,0,0]) (.block 0 (.loop b21_0)))))
noncomputable def all21:Code := .seq (aC Tryz.f21 [0]) (.seq (aC Tryz.f21 [1,0]) (.seq (aC Tryz.f21 [1,1,0]) (.seq (.seq (aC Tryz.f21 [1,1,1,0,0]) (.block 0 (.loop b21_0))) (aC Tryz.f21 [1,1,1,1]))))
theorem body21:Tryz.f21.body=some all21:=rfl
def ownRow (o:Own) (n:Nat) (h:H):Bool:=
 match o with
 | .full=>Nat.beq n 0
 | .ch id=>match h.t.get id with
  | some (.chain m e s)=>Nat.beq m n&&(Nat.beq e 9&&Nat.beq s 1)
  | _=>false
 | .no=>false
noncomputable def env0:Env:=bH env 127 (primGrow 9 1 16)
theorem env0_ok:dW Tryz.prog env0:=bD env_ok pGrow_ok
noncomputable def pSort (E:Env) (a:AV):Option AV:=
 match aJ (cG E 60) E 21 47 60 pre21 (setArgs 0 [a] .e) ⟨.e,0⟩with
 | some (.normal,tm,h)=>match tm.get 3 with
  | some (.sl o els)=>match strsOf els with
   | some l=>bif ownRow o l.length h&&Nat.ble l.length 1000000 then some (.sl .no ((sortN (l.map ofB)).map AV.str))else none
   | none=>none
  | _=>none
 | _=>none
noncomputable def pRet (E:Env) (a:AV):Option AV:=
 match aJ (cG E 60) E 21 47 60 all21 (setArgs 0 [a] .e) ⟨.e,0⟩with
 | some (.ret,tm,h)=>match bQ E.ty tm h Tryz.f21.results.toList with
  | some l=>cL 40 h (bS l)
  | none=>none
 | _=>none
def primBare (p:List AV→Option AV) (args:List AV) (h:H):Option (AV × H):=
 match AV.baresF args with
 | none=>none
 | some a=>match p a with
  | none=>none
  | some v=>some (v,h)
noncomputable def pT:Nat→List AV→Option AV
 | 0,_=>none
 | k+1,args=>match args with
  | [a]=>match pSort (bH env0 21 (primBare (pT k))) a with
   | some v=>some v
   | none=>pRet (bH env0 21 (primBare (pT k))) a
  | _=>none
theorem pSort_some {E:Env} {a v:AV} (h:pSort E a=some v):∃ tm h' o,∃ l:List (List UInt8),cdL E 21 47 pre21 (setArgs 0 [a] .e) ⟨.e,0⟩=some (.normal,tm,h')∧tm.get 3=some (.sl o (l.map fun z=>AV.str (ofB z)))∧ownRow o l.length h'=true∧l.length≤1000000∧v = .sl .no ((sortN (l.map ofB)).map AV.str):=by
 unfold pSort at h
 split at h
 ·rename_i tm h' he
  split at h
  ·rename_i o els hg
   split at h
   ·rename_i l hi
    cases hc:(ownRow o l.length h'&&Nat.ble l.length 1000000)with
    | false=>rw[hc]at h;simp at h
    | true=>
     rw[hc]at h
     simp only[cond_true,Option.some.injEq]at h
     simp only[Bool.and_eq_true]at hc
     exact⟨tm,h',o,l,lim_some (mono_cd E 21 47 pre21 _ _) he,by rw[←strsOf_some hi];exact hg,hc.1,Nat.le_of_ble_eq_true hc.2,h.symm⟩
   ·cases h
  ·cases h
 ·cases h
theorem pRet_some {E:Env} {a v:AV} (h:pRet E a=some v):∃ u h',bodyL E 21 Tryz.f21 all21 [a] ⟨.e,0⟩=some (u,h')∧cL 40 h' u=some v:=by
 unfold pRet at h
 split at h
 ·rename_i tm h' he
  split at h
  ·rename_i l hl
   refine⟨bS l,h',?_,h⟩
   unfold bodyL
   rw[show cdL E 21 Tryz.f21.ntmps all21 (setArgs 0 [a] .e) ⟨.e,0⟩=_ from lim_some (mono_cd E 21 47 all21 _ _) he]
   unfold aT
   simp only[hl]
  ·cases h
 ·cases h
theorem pT_ok:∀ k,cJ Tryz.prog 21 (primBare (pT k)):=by
 intro k
 induction k with
 | zero=>exact⟨⟨Tryz.f21,Tryz.func21,by kernel_rfl,by kernel_rfl⟩,fun args h v h' he=>by unfold primBare at he;split at he<;>simp[pT]at he⟩
 | succ k ih=>
  have hE:dW Tryz.prog (bH env0 21 (primBare (pT k))):=bD env0_ok ih
  generalize hEq:bH env0 21 (primBare (pT k))=E at hE
  have hfn:E.fns 21=some Tryz.f21:=by rw[←hEq];exact(by kernel_rfl:env0.fns 21=some Tryz.f21)
  refine⟨⟨Tryz.f21,Tryz.func21,by kernel_rfl,by kernel_rfl⟩,fun args h v hk he G w A I hA => ?_⟩
  unfold primBare at he
  cases hs:AV.baresF args with
  | none=>rw[hs]at he;simp at he
  | some args'=>
   rw[hs]at he
   simp only at he
   cases hv:pT (k+1) args' with
   | none=>rw[hv]at he;simp at he
   | some v0=>
    rw[hv]at he
    simp only[Option.some.injEq,Prod.mk.injEq]at he
    obtain⟨rfl,rfl⟩:=he
    have hA':VRs (Gp G) w A.toList args':=VRs.wk (n:=0) (G:=G) (G':=Gp G) (fun b o v s=>s) (fun id b hi=>by omega) (fun id m v hi=>by omega) hA (baresF_wk _ _ hs).1
    unfold pT at hv
    split at hv
    ·rename_i a
     rw[hEq]at hv
     cases hps:pSort E a with
     | some v1=>
      rw[hps]at hv
      simp only[Option.some.injEq]at hv
      subst hv
      obtain⟨tm,h',o,l,hx,g3,hr,hll,rfl⟩:=pSort_some hps
      have key:Calls Tryz.prog 21 A w fun e w'=>∃ V,e = .returned V∧Old w w'∧∀ G':Gh,(∀ b,w.heap.size≤b→G'.fr b=none)→VR G' w' V (.sl .no ((sortN (l.map ofB)).map AV.str)):=by
       refine calls_of_wp Tryz.func21 body21 ?_
       have hAl:A.size=1:=by have:=hA'.1;simpa using this
       have T0:TmR (Gp G) w 47 (setArgs 0 [a] .e) { tmps:=A++Array.replicate (47-A.size) undef,defers:=[] }:=tmr_start (by simp) hA'
       have hco:=hE.plans 21 Tryz.f21 _ hfn body21
       refine seq4_sim hE (by unfold all21 at hco;simp only[codeOk,Bool.and_eq_true]at hco ⊢;exact⟨hco.1,hco.2.1,hco.2.2.1,hco.2.2.2.1⟩) (invp I) T0 hx fun G1 w1 a1 I1 X1 T1 d1 => ?_
       have r:=T1.val 3 _ g3
       have hsz:=T1.size
       have hfr:(o = .full∧l=[])∨∃ id,o = .ch id∧h'.t.get id=some (.chain l.length 9 1):=by
        unfold ownRow at hr
        split at hr
        ·exact .inl ⟨rfl,List.eq_nil_of_length_eq_zero (bV.1 hr)⟩
        ·rename_i id
         split at hr
         ·rename_i n e s hg
          simp only[Bool.and_eq_true,bV]at hr
          obtain⟨rfl,rfl,rfl⟩:=hr
          exact .inr ⟨id,rfl,hg⟩
         ·cases hr
        ·cases hr
       have ho:=row_owned (G:=G) (enc:=Go.Proofs.encStr) I1 X1 (av:=fun z=>AV.str (ofB z)) enc_inv (fun _=>rfl) hfr r
       obtain⟨o0,o1,o2,o3,o4,hT,q0,q1,q2,q3,q4⟩:∃ o0 o1 o2 o3 o4,aC Tryz.f21 [1,1,1,1] = .seq (.region 15 #[o0,o1] false) (.seq (.region 16 #[o2,o3,o4] false) .ret)∧(o0.op = .move (.tmp 3)∧o0.dst=some 43∧o0.guard=none) ∧
         (o1.op = .call { callee := .value (.func 40),args := #[.tmp 43],argTypes := #[25] }∧o1.dst=some 44∧o1.guard=none)∧(o2.op = .move (.tmp 3)∧o2.dst=some 45∧o2.guard=none) ∧
         (o3.op = .call { callee := .value (.func 41),args := #[.tmp 45],argTypes := #[25] }∧o3.dst=some 46∧o3.guard=none)∧(o4.op = .assign (.tmp 46)∧o4.dst=some 2∧o4.guard=none):=
        ⟨_,_,_,_,_,rfl,⟨rfl,rfl,rfl⟩,⟨rfl,rfl,rfl⟩,⟨rfl,rfl,rfl⟩,⟨rfl,rfl,rfl⟩,⟨rfl,rfl,rfl⟩⟩
       rw[hT,←sortN_eq,List.map_map]
       exact tail_sc (e:=9) sortC40 compC41 (av:=fun z=>AV.str (ofB z)) enc_VR (fun _=>rfl) rfl (below_of_ext X1) (by omega) ho q0 q1 q2 q3 q4 rfl d1 rfl (by rw[hsz];omega) (by omega)
      refine key.mono ?_
      rintro e w' ⟨V,rfl,O,hV⟩
      refine⟨G,V,rfl,hV G fun b hb => ?_,grow_inv I O.os O.tape O.output O.size O.same,grow_ext G _ O.os O.tape O.output O.size O.same⟩
      cases hf:G.fr b with
      | none=>rfl
      | some k=>exact absurd (I.frb b k hf).2 (by omega)
     | none=>
      rw[hps]at hv
      obtain⟨u,h',hb,hsn⟩:=pRet_some hv
      exact((bodyL_sim hE hfn body21 (by kernel_rfl) hb).2 (Gp G) w A (invp I) hA').mono fun e w' hp=>post_snap I hsn hp
    ·cases hv
noncomputable def env1:Env:=bH env0 21 (primBare (pT 30))
theorem env1_ok:dW Tryz.prog env1:=bD env0_ok (pT_ok 30)
structure Ins where
 op:Int
 n:Int
def insC:List Ins→List AV
 | []=>[]
 | i::l => .int .i64 i.op :: .int .i64 i.n::insC l
theorem insC_app (a b:List Ins):insC (a++b)=insC a++insC b:=by
 induction a with
 | nil=>rfl
 | cons i l ih=>simp[insC,ih]
theorem insC_len (l:List Ins):(insC l).length=l.length*2:=by
 induction l with
 | nil=>rfl
 | cons i l ih=>simp only[insC,List.length_cons,ih];omega
def fI (h:H) (v:AV) (l:List Ins):Prop:=(v = .sl .full []∧l=[])∨∃ id,v = .rs id l.length true∧h.t.get id=some (.row l.length 62 2 (insC l))∧id<h.nx
def cB:AV→Option Nat
 | .rs id _ _=>some id
 | _=>none
def Fr (S:List Nat) (h h':H):Prop:=h.nx≤h'.nx∧∀ j,j<h.nx→j ∉ S→h'.t.get j=h.t.get j
theorem Fr.refl (S:List Nat) (h:H):Fr S h h:=⟨Nat.le_refl _,fun _ _ _=>rfl⟩
theorem fI.mono {h h':H} {v:AV} {l:List Ins} (hc:fI h v l) (hn:h.nx≤h'.nx) (hg:∀ j,cB v=some j→j<h.nx→h'.t.get j=h.t.get j):fI h' v l:=by
 rcases hc with ⟨rfl,rfl⟩|⟨id,rfl,h1,h2⟩
 ·exact .inl ⟨rfl,rfl⟩
 ·exact .inr ⟨id,rfl,by rw[hg id rfl h2];exact h1,Nat.lt_of_lt_of_le h2 hn⟩
theorem appR_code {h:H} {v:AV} {l:List Ins} (hc:fI h v l) (hl:l.length≤1000000) {i1:Nat} {x:Ins} (h1:h.t.get i1=some (.row 1 62 2 (insC [x]))) :
  ∃ v' h',eQ 62 2 16 h v (.rs i1 1 true)=some (v',h')∧fI h' v' (l++[x])∧Fr (cB v).toList h h'∧∃ id,v' = .rs id (l.length+1) true∧(cB v=some id∨h.nx≤id):=by
 have hr:eO 2 h (.rs i1 1 true)=some (1,insC [x]):=by simp[eO,h1,insC,bB,AV.one]
 rcases hc with ⟨rfl,rfl⟩|⟨id,rfl,hg,hi⟩
 ·refine⟨.rs h.nx 1 true,h.new (.row 1 62 2 (insC [x])),?_,.inr ⟨h.nx,rfl,T.bO _ _ _,Nat.lt_succ_self _⟩,⟨Nat.le_succ _,fun j hj _=>T.aD _ _ (by omega)⟩,h.nx,rfl,.inr (Nat.le_refl _)⟩
  unfold eQ
  rw[hr]
  simp[insC]
  rfl
 ·refine⟨.rs id (l.length+1) true,h.put id (.row (l.length+1) 62 2 (insC l++insC [x])),?_,.inr ⟨id,by simp,?_,hi⟩,⟨Nat.le_refl _,fun j hj hm=>T.aD _ _ (by simpa[cB]using hm)⟩,id,rfl,.inl rfl⟩
  ·unfold eQ
   rw[hr]
   have:(l.length+1)*16≤140737488355328:=by omega
   simp[insC,hg,ble_dec,this]
   rfl
  ·rw[insC_app]
   simp[H.put,T.bO]
theorem body43:Tryz.f43.body=some (aC Tryz.f43 []):=rfl
theorem puts_run {E:Env} (hty:E.ty=env.ty) (hpl:E.plan=env.plan) (h43:E.prim 43=none) (hfn:E.fns=env.fns) {f:Nat} {m v:AV} {l:List Ins} {h:H} (hf:h.t.get f=some (.cells [m,v])) (hfx:f<h.nx) (hc:fI h v l) (hl:l.length≤1000000) (hv:cB v≠some f) (hm:m.one=true) (op n:Int) :
  ∃ h' v',evL E 43 [.ptr (some (f,0)),.int .i64 op,.int .i64 n] h=some (.int .i64 ↑l.length,h')∧h'.t.get f=some (.cells [m,v'])∧fI h' v' (l++[⟨op,n⟩])∧Fr (f::(cB v).toList) h h'∧(∃ id,v' = .rs id (l.length+1) true∧(cB v=some id∨h.nx≤id)):=by
 have gn:∀ j,j<h.nx→(⟨h.t.set h.nx (.row 1 62 2 (insC [⟨op,n⟩])),h.nx+1⟩:H).t.get j=h.t.get j:=fun j hj=>T.aD _ _ (by omega)
 obtain⟨v',h2,k1,k2,k3,id,rfl,k5⟩:=appR_code (h:=⟨h.t.set h.nx (.row 1 62 2 (insC [⟨op,n⟩])),h.nx+1⟩) (hc.mono (Nat.le_succ _) fun j _ hj=>gn j hj) hl (i1:=h.nx) (x:=⟨op,n⟩) (T.bO _ _ _)
 have hf2:h2.t.get f=some (.cells [m,v]):=by
  rw[k3.2 f (Nat.lt_succ_of_lt hfx) (by cases hr:cB v with|none=>simp|some i=>simp;rintro rfl;exact hv hr),gn f hfx]
  exact hf
 have hidf:id≠f:=by
  rintro rfl
  rcases k5 with e|e
  ·exact hv e
  ·simp at e;omega
 have hw:wr .i64 (Int.sub ((↑l.length:Int)+1) 1)=↑l.length:=by rw[show Int.sub ((↑l.length:Int)+1) 1=↑l.length from Int.add_sub_cancel ..];rw[wr_eq];exact eX (by omega) (by omega)
 refine⟨⟨h2.t.set f (.cells [m,.rs id (l.length+1) true]),h2.nx⟩,.rs id (l.length+1) true,?_,T.bO _ _ _,?_,⟨Nat.le_trans (Nat.le_succ _) k3.1,fun j hj hm' => ?_⟩,id,rfl,k5.imp (fun e=>e) fun e=>by simp at e;omega⟩
 ·rw[bE E (by rw[h43]) (by rw[hfn];kernel_rfl) body43 _ _ rfl]
  simp only[aC,sub,Tryz.f43]
  simp only[insC]at k1
  have hn1:f≠h.nx:=by omega
  simp[EVT,aT,bC,aX,bA,bT,aL,aN,aQ,bX,bF,aV,AV.cells,aG,aZ,val,aH,bN,bP,aU,aO,aM,bY,H.new,H.put,cT,aY,bB,AV.one,setArgs,bQ,bS,bJ,aR,aP,bK,TYC,hty,hf,k1,hf2,hw]
 ·refine k2.mono (Nat.le_refl _) fun j hj _ => ?_
  simp only[cB,Option.some.injEq]at hj
  exact T.aD _ _ (by omega)
 ·simp only[List.mem_cons,not_or]at hm'
  rw[show(⟨h2.t.set f (.cells [m,.rs id (l.length+1) true]),h2.nx⟩:H).t.get j=h2.t.get j from T.aD _ _ hm'.1,k3.2 j (Nat.lt_succ_of_lt hj) hm'.2,gn j hj]
def hereF (l:List Ins) (p:Nat):List Ins:=l.modify p fun i=>⟨i.op,↑l.length⟩
theorem hereF_len (l:List Ins) (p:Nat):(hereF l p).length=l.length:=by simp[hereF]
theorem insC_fill:∀ (l:List Ins) (p:Nat) (n:Int),p<l.length→aY (insC l) (p*2+1) [.int .i64 n]=insC (l.modify p fun i=>⟨i.op,n⟩)
 | [],p,n,h=>by simp at h
 | i::l,0,n,h=>by simp[insC,aY]
 | i::l,p+1,n,h=>by
  have:=insC_fill l p n (by simpa using h)
  rw[show(p+1)*2+1=(p*2+1)+1+1 by omega]
  simp[insC,aY,this]
theorem body115:Tryz.f115.body=some (aC Tryz.f115 []):=rfl
theorem here_run {E:Env} (hty:E.ty=env.ty) (hpl:E.plan=env.plan) (h115:E.prim 115=none) (hfn:E.fns=env.fns) {f id:Nat} {m:AV} {l:List Ins} {h:H} (hf:h.t.get f=some (.cells [m,.rs id l.length true])) (hc:h.t.get id=some (.row l.length 62 2 (insC l))) (hl:l.length≤1000000) {p:Nat} (hp:p<l.length) :
  evL E 115 [.ptr (some (f,0)),.int .i64 ↑p] h=some (.tup [],⟨h.t.set id (.row l.length 62 2 (insC (hereF l p))),h.nx⟩):=by
 rw[bE E (by rw[h115]) (by rw[hfn];kernel_rfl) body115 _ _ rfl]
 simp only[aC,sub,Tryz.f115]
 have hfl:=insC_fill l p ↑l.length hp
 have hlen:=insC_len l
 have hle:p*2+1+1≤l.length*2:=by omega
 have hbl:Nat.blt p l.length=true:=cR.2 hp
 simp[EVT,aT,aX,bA,bT,aL,aN,aQ,bF,aV,AV.cells,aG,aZ,val,aH,bI,recheck,H.put,bB,AV.one,setArgs,bQ,bS,TYC,hty,hpl,hf,hc,hp,hlen,hle,hfl,hereF]
 trace_state
end Go.Proofs.YtogjplcnmibnlaaGreatDoor.Env
namespace Go.Proofs.YtogjplcnmibnlaaGreatDoor.Env
open Go.Ev Go.Ev.Nd
attribute [local simp] bC aX bA bT aL aN aQ bX bF bW dE cD aV AV.cells aG aZ val aH bN bP cP bG eI aU aO aM bY bI recheck H.new H.put cT aY bB AV.one setArgs bQ bS bJ aR aP bK
def idxS (v:List Nat):List Str→Nat→Int
 | [],_ => -1
 | t::l,i=>bif aB v t.s then ↑i else idxS v l (i+1)
theorem idxS_neg {v:List Nat}:∀ {l:List Str} (i:Nat),ltI (idxS v l i) 0 = !dA l v
 | [],i=>rfl
 | t::l,i=>by
  simp only[idxS,dA,List.any_cons]
  cases hb:aB v t.s with
  | true=>simp only[cond_true,Bool.true_or,Bool.not_true,dI];simp
  | false=>simp only[cond_false,Bool.false_or];exact idxS_neg (l:=l) (i+1)
noncomputable def b34_0:Code:=aK Tryz.f34 0
theorem body34:Tryz.f34.body=some (.seq (aC Tryz.f34 [0]) (.seq (.seq (aC Tryz.f34 [1,0,0]) (.block 0 (.loop b34_0))) (aC Tryz.f34 [1,1]))):=rfl
theorem loop34 {E:Env} (hty:E.ty=env.ty) (hpl:E.plan=env.plan) {o:Own} {L:List Str} {v:List Nat} (hl:L.length≤9223342036854775807):∀ (l:List Str) (i:Nat) {tm:Tm} {h:H} {x:Option (Ex × Tm × H)},cdL E 34 19 (.loop b34_0) tm h=x→l=L.drop i→i≤L.length →
  tm.get 0=some (.sl o (strs L))→tm.get 1=some (.str v)→tm.get 7=some (.int .i64 ↑L.length)→tm.get 8=some (.int .i64 ↑i)→∃ tm',x=some (bif dA l v then .ret else .exit 0,tm',h)∧(dA l v=true→tm'.get 4=some (.int .i64 (idxS v l i)))
 | [],i,tm,h,x,hx,hd,hi,h0,h1,h7,h8=>by
  have hlen:=dnil hd hi
  obtain⟨R,hR,hx⟩:=aS hx
  simp[b34_0,aK,Tryz.f34,loops,EVT,lp,hty,h7,h8,hlen,dZ]at hx
  exact⟨_,by rw[←hx];rfl,by simp[dA]⟩
 | c::l,i,tm,h,x,hx,hd,hi,h0,h1,h7,h8=>by
  obtain⟨hlt,hc,hd'⟩:=gC hd
  have hat:=strs_get hc
  obtain⟨R,hR,hx⟩:=aS hx
  have hlt':=eR hlt
  have hw:=cH (i:=i) (by omega)
  cases hb:aB v c.s with
  | true=>
   simp[b34_0,aK,Tryz.f34,loops,EVT,TYC,lp,hty,h0,h1,h7,h8,hlt',hat,hb]at hx
   exact⟨_,by rw[←hx];simp[dA,hb];rfl,by simp[T.aA,idxS,hb]⟩
  | false=>
   simp[b34_0,aK,Tryz.f34,loops,EVT,TYC,lp,hty,h0,h1,h7,h8,hlt',hat,hb,hw]at hx
   rw[hR]at hx
   have e:dA (c::l) v=dA l v:=by simp[dA,hb]
   have e2:idxS v (c::l) i=idxS v l (i+1):=by simp[idxS,hb]
   rw[e,e2]
   exact loop34 hty hpl (o:=o) (v:=v) hl l (i+1) hx hd' hlt (by simp[T.aA,h0]) (by simp[T.aA,h1]) (by simp[T.aA,h7]) (by simp[T.aA])
theorem index_run {E:Env} (hty:E.ty=env.ty) (hpl:E.plan=env.plan) (hp:E.prim 34=none) (hfn:E.fns 34=some Tryz.f34) (o:Own) (L:List Str) (v:List Nat) (hl:L.length≤9223342036854775807) (h:H):evL E 34 [.sl o (strs L),.str v] h=some (.int .i64 (idxS v L 0),h):=by
 have hil:=cA L
 rw[bE E hp hfn body34 _ _ rfl]
 simp only[aC,sub,Tryz.f34]
 simp[EVT,aT,TYC,hty,hil]
 generalize hx:cdL E 34 19 (.loop b34_0) _ _=x
 obtain⟨tm',rfl,g⟩:=loop34 hty hpl (o:=o) (v:=v) hl L 0 hx rfl (Nat.zero_le _) (by simp[T.aA]) (by simp[T.aA]) (by simp[T.aA]) (by simp[T.aA])
 cases hb:dA L v with
 | true=>simp[g hb]
 | false=>
  have:∀ (l:List Str) (i:Nat),dA l v=false→idxS v l i = -1:=by
   intro l
   induction l with
   | nil=>intro i _;rfl
   | cons t l ih=>
    intro i hh
    simp only[dA,List.any_cons,Bool.or_eq_false_iff]at hh
    simp only[idxS,hh.1,cond_false]
    exact ih (i+1) hh.2
  rw[this L 0 hb]
  simp[EVT]
def strI (S:List Str) (s:List Nat):Int:=bif dA S s then idxS s S 0 else ↑S.length
def strF (S:List Str) (s:List Nat):List Str:=bif dA S s then S else S++[⟨s⟩]
theorem strs_app (a b:List Str):strs (a++b)=strs a++strs b:=by simp[strs]
theorem strs_sz (a:List Str):aM 1 (strs a)=true:=by
 induction a with
 | nil=>rfl
 | cons t l ih=>simpa[strs]using ih
theorem body113:Tryz.f113.body=some (aC Tryz.f113 []):=rfl
theorem str_run {E:Env} (hty:E.ty=env.ty) (hpl:E.plan=env.plan) (hp:E.prim 113=none) (hp34:E.prim 34=none) (hfn:E.fns=env.fns) {m:Nat} {d fv:AV} {w:Go.Ev.Own} {S:List Str} {h:H} (hm:h.t.get m=some (.cells [d,fv,.sl w (strs S)])) (hmx:m<h.nx) (hr:RowE 9 1 h w (strs S)) (hl:S.length≤1000000)
  (hd:d.one=true) (hfv:fv.one=true) (s:List Nat) :
  ∃ h' w',evL E 113 [.ptr (some (m,0)),.str s] h=some (.int .i64 (strI S s),h')∧h'.t.get m=some (.cells [d,fv,.sl w' (strs (strF S s))])∧RowE 9 1 h' w' (strs (strF S s))∧h.nx≤h'.nx∧(∀ j,j<h.nx→j≠m→w ≠ .ch j→h'.t.get j=h.t.get j)∧∀ j,w' = .ch j→w = .ch j∨h.nx≤j:=by
 have hil:=cA S
 have k34:=fun h=>index_run (E:=E) hty hpl hp34 (by rw[hfn];kernel_rfl) w S s (by omega) h
 have hng:=idxS_neg (v:=s) (l:=S) 0
 cases hs:dA S s with
 | true=>
  rw[hs]at hng
  refine⟨h,w,?_,by simpa[strF,hs]using hm,by simpa[strF,hs]using hr,Nat.le_refl _,fun _ _ _ _=>rfl,fun j e => .inl e⟩
  rw[bE E hp (by rw[hfn];kernel_rfl) body113 _ _ rfl]
  simp only[aC,sub,Tryz.f113]
  simp[EVT,aT,TYC,hty,hm,k34,hng,strI,hs]
 | false=>
  rw[hs]at hng
  obtain⟨w',h2,k1,k2,k3,k4⟩:=app_any (e:=9) (sz:=1) (byt:=16) (ys:=strs [⟨s⟩]) (by omega) (by omega) (strs_sz S) rfl rfl (by rw[hil];simp[strs];omega) hr
  have hm2:h2.t.get m=some (.cells [d,fv,.sl w (strs S)]):=by rw[k4 m hmx (hr.ne hm)];exact hm
  have hw':=own_app hr k1
  refine⟨⟨h2.t.set m (.cells [d,fv,.sl w' (strs (S++[⟨s⟩]))]),h2.nx⟩,w',?_,by simp only[strF,hs,cond_false];exact T.bO _ _ _,?_,k3,fun j hj hne hwj=>by rw[show(⟨h2.t.set m (.cells [d,fv,.sl w' (strs (S++[⟨s⟩]))]),h2.nx⟩:H).t.get j=h2.t.get j from T.aD _ _ hne];exact k4 j hj hwj,hw'⟩
  ·rw[bE E hp (by rw[hfn];kernel_rfl) body113 _ _ rfl]
   simp only[aC,sub,Tryz.f113]
   rw[show strs [⟨s⟩]=[AV.str s] from rfl]at k1
   rw[strs_app,show strs [⟨s⟩]=[AV.str s] from rfl]
   simp[EVT,aT,TYC,hty,hm,k34,hng,strI,hs,hil,k1,hm2,-bG]
  ·simp only[strF,hs,cond_false]
   rw[strs_app]
   rcases k2 with e|⟨id,e,hg,hi⟩
   ·exact .inl e
   ·refine .inr ⟨id,e,?_,hi⟩
    have:id≠m:=by rintro rfl;rw[hm2]at hg;cases hg
    rw[show(⟨h2.t.set m (.cells [d,fv,.sl w' (strs S++strs [⟨s⟩])]),h2.nx⟩:H).t.get id=h2.t.get id from T.aD _ _ this]
    exact hg
end Go.Proofs.YtogjplcnmibnlaaGreatDoor.Env
