/- What code is made: plain. The hypothesis for a depth; a function that is made. -/
import Derived.Test.YtogjplcnmibnlaaGreatDoorCL
set_option autoImplicit false
set_option maxRecDepth 100000
set_option maxHeartbeats 4000000
set_option linter.unusedSimpArgs false
set_option linter.unusedVariables false
namespace Go.Proofs.YtogjplcnmibnlaaGreatDoor.Env
open Go.Ev Go.Ev.Nd
def oFun:List Nat:=[102,117,110]
def oLet:List Nat:=[108,101,116]
def oRec:List Nat:=[114,101,99]
def oIf:List Nat:=[105,102]
def dV:List Nat:=[109,97,116,99,104]
def oTry:List Nat:=[116,114,121]
def oSeq:List Nat:=[115,101,113]
abbrev G3:=List Str × List (List Ins) × List Ins
abbrev GF:=Nd→List Str→List Str→Nat→Nat→G3
def kid (t:Nd) (i:Nat):Nd:=t.kids.getD i (.mk [] [] [] 0 0 [])
def cZ (g:GF) (k:Nd) (en S:List Str) (nf:Nat):List Str × List (List Ins):=((g k en S (nf+1) 0).1,((g k en S (nf+1) 0).2.2++[⟨10,0⟩])::(g k en S (nf+1) 0).2.1)
def genB (g:GF) (k:Nd) (p:List Nat) (en S:List Str) (nf pos:Nat):G3:=((g k (⟨p⟩::en) S nf (pos+1)).1,(g k (⟨p⟩::en) S nf (pos+1)).2.1,⟨6,0⟩::((g k (⟨p⟩::en) S nf (pos+1)).2.2++[⟨7,0⟩]))
def cI (a:G3) (b:List Str→Nat→Nat→G3) (nf pos:Nat):G3:=((b a.1 (nf+a.2.1.length) (pos+a.2.2.length)).1,a.2.1++(b a.1 (nf+a.2.1.length) (pos+a.2.2.length)).2.1,a.2.2++(b a.1 (nf+a.2.1.length) (pos+a.2.2.length)).2.2)
def gB (i:Ins):List Str→Nat→Nat→G3:=fun S _ _=>(S,[],[i])
def twoG (op:Int) (one other:List Str→Nat→Nat→G3):List Str→Nat→Nat→G3:=fun S nf pos=>
 let a:=one S nf (pos+1)
 let b:=other a.1 (nf+a.2.1.length) (pos+1+a.2.2.length+1)
 (b.1,a.2.1++b.2.1,⟨op,↑(pos+1+a.2.2.length+1)⟩::(a.2.2++⟨11,↑(pos+1+a.2.2.length+1+b.2.2.length)⟩::b.2.2))
def opsL:List (List Nat × Int):=[
 ([97,100,100],17),
 ([115,117,98],18),
 ([109,117,108],19),
 ([108,101,115,115],20),
 ([101,113],21),
 ([99,97,116],22),
 ([99,111,110,115],23),
 ([112,97,105,114],24),
 ([115,101,116],25),
 ([108,105,110,107],26),
 ([97,112,112],9),
 ([114,97,105,115,101],16),
 ([103,101,116],30),
 ([102,115,116],27),
 ([115,110,100],28),
 ([114,101,102],29),
 ([99,101,108,108],31),
 ([116,97,103],32),
 ([108,105,110,107,115],33),
 ([115,105,122,101],34),
 ([112,114,105,110,116],35)]
def esO (l:List (List Nat × Int)):List (AV × AV):=l.map fun p=>(.str p.1,.int .i64 p.2)
def lookO (o:List Nat):List (List Nat × Int)→Option Int
 | []=>none
 | (k,s)::l=>bif aB o k then some s else lookO o l
theorem mapGet_ops (o:List Nat):∀ l:List (List Nat × Int),mapGet (.str o) (esO l)=some ((lookO o l).map (AV.int .i64))
 | []=>rfl
 | (k,s)::l=>by
  have:=mapGet_ops o l
  simp only[esO,List.map_cons,mapGet,keyCmp,lookO]at this ⊢
  cases aB o k with
  | true=>rfl
  | false=>exact this
def opI (o:List Nat):Int:=(lookO o opsL).getD 0
theorem body79:Tryz.f79.body=some (aC Tryz.f79 []):=rfl
theorem ops_run {E:Env} (hty:E.ty=env.ty) (hpl:E.plan=env.plan) (hp:E.prim 79=none) (hfn:E.fns=env.fns) (h:H) :
  ∃ h',evL E 79 [] h=some (.map (some h.nx),h')∧h'.t.get h.nx=some (.map (esO opsL))∧h'.nx=h.nx+1∧∀ j,j<h.nx→h'.t.get j=h.t.get j:=by
 rw[bE E hp (by rw[hfn];kernel_rfl) body79 _ _ rfl]
 simp only[aC,sub,Tryz.f79]
 simp[EVT,aT,bC,aX,bA,bT,aL,aN,bX,bF,aG,aZ,val,H.new,H.put,setArgs,bQ,bS,bJ,aR,TYC,hty,evUpd,keyOk,mapPut,keyCmp,aB,bytesOf]
 refine⟨rfl,fun j hj => ?_⟩
 repeat rw[if_neg (by omega)]
def genK (g:GF) (en:List Str):List Nd→List Str→Nat→Nat→G3
 | [],S,_,_=>(S,[],[])
 | k::l,S,nf,pos=>cI (g k en S nf pos) (genK g en l) nf pos
def gen:Nat→GF
 | 0,_,_,S,_,_=>(S,[],[])
 | d+1,t,en,S,nf,pos=>match dL t.op t.name t.n en S with
  | some (S',i)=>(S',[],[i])
  | none=>
   bif aB t.op oFun then((cZ (gen d) (kid t 0) (⟨t.name⟩::en) S nf).1,(cZ (gen d) (kid t 0) (⟨t.name⟩::en) S nf).2,[⟨4,↑nf⟩])
   else bif aB t.op oLet then cI (gen d (kid t 0) en S nf pos) (genB (gen d) (kid t 1) t.name en) nf pos
   else bif aB t.op oRec then cI ((cZ (gen d) (kid t 0) (⟨t.arg⟩::⟨t.name⟩::en) S nf).1,(cZ (gen d) (kid t 0) (⟨t.arg⟩::⟨t.name⟩::en) S nf).2,[⟨5,↑nf⟩]) (genB (gen d) (kid t 1) t.name en) nf pos
   else bif aB t.op oIf then cI (gen d (kid t 0) en S nf pos) (twoG 12 (gen d (kid t 1) en) (gen d (kid t 2) en)) nf pos
   else bif aB t.op dV then cI (gen d (kid t 0) en S nf pos) (twoG 13 (fun S nf pos=>cI (cI (gen d (kid t 2) (⟨t.arg⟩::⟨t.name⟩::en) S nf pos) (gB ⟨7,0⟩) nf pos) (gB ⟨7,0⟩) nf pos) (gen d (kid t 1) en)) nf pos
   else bif aB t.op oTry then twoG 14 (fun S nf pos=>cI (gen d (kid t 0) en S nf pos) (gB ⟨15,0⟩) nf pos) (genB (gen d) (kid t 1) t.name en) S nf pos
   else bif aB t.op oSeq then cI (cI (gen d (kid t 0) en S nf pos) (gB ⟨8,0⟩) nf pos) (gen d (kid t 1) en) nf pos
   else cI (genK (gen d) en t.kids S nf pos) (gB ⟨opI t.op,0⟩) nf pos
def fA (S:List Str) (k c:Nat) (r:G3):Prop:=r.1.length≤S.length+k∧r.2.1.length≤k∧r.2.2.length≤c
theorem strF_len (S:List Str) (s:List Nat):(strF S s).length≤S.length+1:=by
 unfold strF
 cases dA S s<;>simp
theorem fA.cI {S:List Str} {a b c e:Nat} {x:G3} {y:List Str→Nat→Nat→G3} {nf pos:Nat} (hx:fA S a c x) (hy:∀ S nf pos,fA S b e (y S nf pos)):fA S (a+b) (c+e) (Env.cI x y nf pos):=by
 have h:=hy x.1 (nf+x.2.1.length) (pos+x.2.2.length)
 unfold Env.cI
 obtain⟨a1,a2,a3⟩:=hx
 obtain⟨b1,b2,b3⟩:=h
 refine⟨?_,?_,?_⟩
 ·simp only;omega
 ·simp only[List.length_append];omega
 ·simp only[List.length_append];omega
theorem fA.gB (S:List Str) (i:Ins) (nf pos:Nat):fA S 0 1 (Env.gB i S nf pos):=⟨Nat.le_refl _,Nat.le_refl _,Nat.le_refl _⟩
theorem fA.more {S:List Str} {a b c e:Nat} {x:G3} (h:fA S a c x) (h1:a≤b) (h2:c≤e):fA S b e x:=⟨by have:=h.1;omega,by have:=h.2.1;omega,by have:=h.2.2;omega⟩
theorem fA.two {op:Int} {a b c e:Nat} {x y:List Str→Nat→Nat→G3} (hx:∀ S nf pos,fA S a c (x S nf pos)) (hy:∀ S nf pos,fA S b e (y S nf pos)) (S:List Str) (nf pos:Nat):fA S (a+b) (c+e+2) (twoG op x y S nf pos):=by
 obtain⟨a1,a2,a3⟩:=hx S nf (pos+1)
 obtain⟨b1,b2,b3⟩:=hy (x S nf (pos+1)).1 (nf+(x S nf (pos+1)).2.1.length) (pos+1+(x S nf (pos+1)).2.2.length+1)
 refine⟨?_,?_,?_⟩
 ·simp only[twoG];omega
 ·simp only[twoG,List.length_append];omega
 ·simp only[twoG,List.length_append,List.length_cons];omega
theorem fA.genB {g:GF} {k:Nd} {a c:Nat} (hg:∀ en S nf pos,fA S a c (g k en S nf pos)) (p:List Nat) (en S:List Str) (nf pos:Nat):fA S a (c+2) (Env.genB g k p en S nf pos):=by
 obtain⟨a1,a2,a3⟩:=hg (⟨p⟩::en) S nf (pos+1)
 refine⟨?_,?_,?_⟩
 ·simp only[Env.genB];omega
 ·simp only[Env.genB];omega
 ·simp only[Env.genB,List.length_cons,List.length_append,List.length_nil];omega
theorem fA.genK {g:GF} {en:List Str}:∀ (l:List Nd),(∀ k∈l,∀ en S nf pos,fA S k.size (8*k.size) (g k en S nf pos))→∀ S nf pos,fA S (dU l) (8*dU l) (Env.genK g en l S nf pos)
 | [],_,S,nf,pos=>⟨Nat.le_refl _,Nat.le_refl _,Nat.le_refl _⟩
 | k::l,h,S,nf,pos=>by
  have ht:=fA.genK (en:=en) l fun x hx=>h x (List.mem_cons_of_mem _ hx)
  have:=fA.cI (nf:=nf) (pos:=pos) (h k (List.mem_cons_self ..) en S nf pos) ht
  refine fA.more this ?_ ?_<;>simp only[dU]<;>omega
def arity (o:List Nat):Option Nat:=
 bif aB o oFun then some 1 else bif aB o oLet||(aB o oRec||(aB o oTry||aB o oSeq))then some 2 else bif aB o oIf||aB o dV then some 3 else none
mutual
def arOk:Nd→Bool
 | .mk o _ _ _ _ ks=>(match arity o with|some k=>Nat.beq ks.length k|none=>true)&&arOkL ks
def arOkL:List Nd→Bool
 | []=>true
 | t::l=>arOk t&&arOkL l
end
theorem arOkL_mem:∀ {l:List Nd} {t:Nd},arOkL l=true→t∈l→arOk t=true
 | a::l,t,h,ht=>by
  simp only[arOkL,Bool.and_eq_true]at h
  rcases List.mem_cons.1 ht with rfl|ht
  ·exact h.1
  ·exact arOkL_mem h.2 ht
theorem dQ {t:Nd} (h:arOk t=true):(∀ k,arity t.op=some k→t.kids.length=k)∧∀ x∈t.kids,arOk x=true:=by
 cases t with
 | mk o p q n a ks=>
  simp only[arOk,Bool.and_eq_true]at h
  refine⟨fun k hk => ?_,fun x hx=>arOkL_mem h.2 hx⟩
  simp only[Nd.op]at hk
  rw[hk]at h
  exact bV.1 h.1
theorem kid_mem {t:Nd} {i:Nat} (h:i<t.kids.length):kid t i∈t.kids:=by
 unfold kid
 rw[List.getD_eq_getElem?_getD,List.getElem?_eq_getElem h]
 exact List.getElem_mem h
theorem kids1 {t:Nd} (h:t.kids.length=1):t.size=(kid t 0).size+1:=by
 rw[size_eq]
 unfold kid
 match t.kids,h with
 | [a],_=>simp[dU]
theorem kids2 {t:Nd} (h:t.kids.length=2):t.size=(kid t 0).size+(kid t 1).size+1:=by
 rw[size_eq]
 unfold kid
 match t.kids,h with
 | [a,b],_=>simp[dU]
theorem kids3 {t:Nd} (h:t.kids.length=3):t.size=(kid t 0).size+(kid t 1).size+(kid t 2).size+1:=by
 rw[size_eq]
 unfold kid
 match t.kids,h with
 | [a,b,c],_=>simp[dU];omega
theorem nb_of {a b:List Nat} (h:aB a b=true):a=b:=by rw[fX]at h;simpa using h
theorem ar3 {o x:List Nat} (h:aB o x=true) (hx:x=oIf∨x=dV):arity o=some 3:=by
 rw[nb_of h]
 rcases hx with rfl|rfl<;>rfl
theorem cW:∀ (d:Nat) (t:Nd) (en S:List Str) (nf pos:Nat),arOk t=true→fA S t.size (8*t.size) (gen d t en S nf pos)
 | 0,t,en,S,nf,pos,_=>⟨by simp[gen],by simp[gen],by simp[gen]⟩
 | d+1,t,en,S,nf,pos,ha=>by
  obtain⟨har,hk⟩:=dQ ha
  have hs1:1≤t.size:=by rw[size_eq];omega
  have ih:∀ k∈t.kids,∀ en S nf pos,fA S k.size (8*k.size) (gen d k en S nf pos):=fun k hm en S nf pos=>cW d k en S nf pos (hk k hm)
  have ihk:∀ i,i<t.kids.length→∀ en S nf pos,fA S (kid t i).size (8*(kid t i).size) (gen d (kid t i) en S nf pos):=fun i hi=>ih _ (kid_mem hi)
  unfold gen
  split
  ·rename_i S' i hl
   have:S'.length≤S.length+1:=by
    unfold dL at hl
    cases h1:(aB t.op oInt||aB t.op oBool)<;>rw[h1]at hl<;>simp only[cond_true,cond_false,Option.some.injEq,Prod.mk.injEq]at hl
    ·cases h2:(aB t.op oUnit||aB t.op oNil)<;>rw[h2]at hl<;>simp only[cond_true,cond_false,Option.some.injEq,Prod.mk.injEq]at hl
     ·cases h3:aB t.op oStr<;>rw[h3]at hl<;>simp only[cond_true,cond_false,Option.some.injEq,Prod.mk.injEq]at hl
      ·cases h4:aB t.op oVar<;>rw[h4]at hl<;>simp at hl
       rw[←hl.1];omega
      ·rw[←hl.1];exact strF_len _ _
     ·rw[←hl.1];omega
    ·rw[←hl.1];omega
   exact⟨by simp only;omega,by simp,by simp;omega⟩
  ·cases c1:aB t.op oFun with
   | true=>
    have hn:=har 1 (by simp[arity,c1])
    have:=kids1 hn
    obtain⟨a1,a2,a3⟩:=ihk 0 (by omega) (⟨t.name⟩::en) S (nf+1) 0
    simp only[cond_true,cZ]
    exact⟨by simp only;omega,by simp only[List.length_cons];omega,by simp;omega⟩
   | false=>
   cases c2:aB t.op oLet with
   | true=>
    have hn:=har 2 (by simp[arity,c1,c2])
    have:=kids2 hn
    simp only[cond_true,cond_false]
    exact(fA.cI (ihk 0 (by omega) en S nf pos) fun S nf pos=>fA.genB (ihk 1 (by omega)) t.name en S nf pos).more (by omega) (by omega)
   | false=>
   cases c3:aB t.op oRec with
   | true=>
    have hn:=har 2 (by simp[arity,c1,c2,c3])
    have:=kids2 hn
    simp only[cond_true,cond_false]
    obtain⟨a1,a2,a3⟩:=ihk 0 (by omega) (⟨t.arg⟩::⟨t.name⟩::en) S (nf+1) 0
    have h0:fA S ((kid t 0).size+1) 1 ((cZ (gen d) (kid t 0) (⟨t.arg⟩::⟨t.name⟩::en) S nf).1,(cZ (gen d) (kid t 0) (⟨t.arg⟩::⟨t.name⟩::en) S nf).2,[⟨5,↑nf⟩]):=by
     simp only[cZ]
     exact⟨by simp only;omega,by simp only[List.length_cons];omega,by simp⟩
    exact(fA.cI h0 fun S nf pos=>fA.genB (ihk 1 (by omega)) t.name en S nf pos).more (by omega) (by omega)
   | false=>
   cases c4:aB t.op oIf with
   | true=>
    have hn:=har 3 (ar3 c4 (.inl rfl))
    have:=kids3 hn
    simp only[cond_true,cond_false]
    exact(fA.cI (ihk 0 (by omega) en S nf pos) fun S nf pos=>fA.two (ihk 1 (by omega) en) (ihk 2 (by omega) en) S nf pos).more (by omega) (by omega)
   | false=>
   cases c5:aB t.op dV with
   | true=>
    have hn:=har 3 (ar3 c5 (.inr rfl))
    have:=kids3 hn
    simp only[cond_true,cond_false]
    exact(fA.cI (ihk 0 (by omega) en S nf pos) fun S nf pos=>fA.two (a:=(kid t 2).size+0+0) (c:=8*(kid t 2).size+1+1) (fun S nf pos=>fA.cI (fA.cI (ihk 2 (by omega) _ S nf pos) fun S nf pos=>fA.gB S _ nf pos) fun S nf pos=>fA.gB S _ nf pos) (ihk 1 (by omega) en) S nf pos).more (by omega) (by omega)
   | false=>
   cases c6:aB t.op oTry with
   | true=>
    have hn:=har 2 (by simp[arity,c1,c2,c3,c6])
    have:=kids2 hn
    simp only[cond_true,cond_false]
    exact(fA.two (a:=(kid t 0).size+0) (c:=8*(kid t 0).size+1) (fun S nf pos=>fA.cI (ihk 0 (by omega) en S nf pos) fun S nf pos=>fA.gB S _ nf pos) (fun S nf pos=>fA.genB (ihk 1 (by omega)) t.name en S nf pos) S nf pos).more (by omega) (by omega)
   | false=>
   cases c7:aB t.op oSeq with
   | true=>
    have hn:=har 2 (by simp[arity,c1,c2,c3,c6,c7])
    have:=kids2 hn
    simp only[cond_true,cond_false]
    exact(fA.cI (fA.cI (ihk 0 (by omega) en S nf pos) fun S nf pos=>fA.gB S _ nf pos) fun S nf pos=>ihk 1 (by omega) en S nf pos).more (by omega) (by omega)
   | false=>
    simp only[cond_false]
    have:=size_eq t
    exact(fA.cI (fA.genK t.kids (fun k hm en S nf pos=>ih k hm en S nf pos) S nf pos) fun S nf pos=>fA.gB S _ nf pos).more (by omega) (by omega)
structure fU (m f:Nat) (dep:Int) (h:H) (fv v:AV) (F:List AV) (w:Go.Ev.Own) (S':List Str) (N:List (List Ins)) (c':List Ins) (h':H) (fv' v':AV) (N':List AV) (w':Go.Ev.Own):Prop where
 ms:MS h' m dep fv' (F++N') w' S'
 fs:FS h' m f v' c'
 fn:FnsR h' h.nx (Tch m f fv' w' v') N' N
 st:Stp m f h fv w v h' fv' w' v'
theorem fU.trans {m f:Nat} {dep:Int} {h h1 h2:H} {fv fv1 fv2 v v1 v2:AV} {F N1' N2':List AV} {w w1 w2:Go.Ev.Own} {S1 S2:List Str} {N1 N2:List (List Ins)} {c1 c2:List Ins}
  (a:fU m f dep h fv v F w S1 N1 c1 h1 fv1 v1 N1' w1) (b:fU m f dep h1 fv1 v1 (F++N1') w1 S2 N2 c2 h2 fv2 v2 N2' w2):fU m f dep h fv v F w S2 (N1++N2) c2 h2 fv2 v2 (N1'++N2') w2 where
 ms:=by rw[←List.append_assoc];exact b.ms
 fs:=b.fs
 fn:=(a.fn.mono b.st.nx b.st.keep b.st.new).app (b.fn.low a.st.nx)
 st:=a.st.trans b.st
theorem fU.after {m f:Nat} {dep:Int} {h h1 h2:H} {fv fv1 fv2 v v1 v2:AV} {F N2':List AV} {w w1 w2:Go.Ev.Own} {S1 S2:List Str} {N2:List (List Ins)} {c1 c2:List Ins}
  (a:fU m f dep h fv v F w S1 [] c1 h1 fv1 v1 [] w1) (b:fU m f dep h1 fv1 v1 F w1 S2 N2 c2 h2 fv2 v2 N2' w2):fU m f dep h fv v F w S2 N2 c2 h2 fv2 v2 N2' w2:=
 ⟨b.ms,b.fs,b.fn.low a.st.nx,a.st.trans b.st⟩
theorem fU.then {m f:Nat} {dep:Int} {h h1 h2:H} {fv fv1 fv2 v v1 v2:AV} {F N1':List AV} {w w1 w2:Go.Ev.Own} {S1 S2:List Str} {N1:List (List Ins)} {c1 c2:List Ins}
  (a:fU m f dep h fv v F w S1 N1 c1 h1 fv1 v1 N1' w1) (b:fU m f dep h1 fv1 v1 (F++N1') w1 S2 [] c2 h2 fv2 v2 [] w2):fU m f dep h fv v F w S2 N1 c2 h2 fv2 v2 N1' w2:=by
 have:=a.trans b
 rw[List.append_nil,List.append_nil]at this
 exact this
theorem fU.ms0 {m f:Nat} {dep:Int} {h h1:H} {fv fv1 v v1:AV} {F:List AV} {w w1:Go.Ev.Own} {S1:List Str} {N1:List (List Ins)} {c1:List Ins}
  (a:fU m f dep h fv v F w S1 N1 c1 h1 fv1 v1 [] w1):MS h1 m dep fv1 F w1 S1:=by have:=a.ms;rwa [List.append_nil]at this
section
variable {E:Env} {h:H} {m f:Nat} {dep:Int} {fv v:AV} {F:List AV} {w:Go.Ev.Own} {S:List Str} {l:List Ins}
structure EOk (E:Env):Prop where
 ty:E.ty=env.ty
 pl:E.plan=env.plan
 fn:E.fns=env.fns
 no:∀ k∈[22,34,42,43,69,70,71,72,73,74,75,76,77,78,79,113,114,115],E.prim k=none
 gr:E.prim 127=some (primGrow 9 1 16)
theorem fV (e:EOk E) (M:MS h m dep fv F w S) (X:FS h m f v l) (hl:l.length≤1000000) (op n:Int) :
  ∃ h' id,evL E 43 [.ptr (some (f,0)),.int .i64 op,.int .i64 n] h=some (.int .i64 ↑l.length,h')∧fU m f dep h fv v F w S [] (l++[⟨op,n⟩]) h' fv (.rs id (l.length+1) true) [] w:=by
 obtain⟨h',id,k1,k2,k3,k4⟩:=puts_step e.ty e.pl (e.no 43 (by simp)) e.fn M X hl op n
 exact⟨h',id,k1,by rw[List.append_nil];exact k2,k3,.nil _ _ _,k4⟩
theorem made_here (e:EOk E) {id:Nat} (M:MS h m dep fv F w S) (X:FS h m f (.rs id l.length true) l) (hl:l.length≤1000000) {p:Nat} (hp:p<l.length) :
  ∃ h',evL E 115 [.ptr (some (f,0)),.int .i64 ↑p] h=some (.tup [],h')∧fU m f dep h fv (.rs id l.length true) F w S [] (hereF l p) h' fv (.rs id l.length true) [] w:=by
 obtain⟨h',k1,k2,k3,k4⟩:=here_step e.ty e.pl (e.no 115 (by simp)) e.fn M X hl hp
 exact⟨h',k1,by rw[List.append_nil];exact k2,k3,.nil _ _ _,k4⟩
theorem made_grow (M:MS h m dep fv F w S) (X:FS h m f v l) {h':H} (hn:h.nx≤h'.nx) (hg:∀ j,j<h.nx→h'.t.get j=h.t.get j):fU m f dep h fv v F w S [] l h' fv v [] w:=
 ⟨by rw[List.append_nil];exact M.grow hn hg,X.grow hn hg,.nil _ _ _,Grow_stp hn hg⟩
end
def NR (E:Env) (d:Nat):Prop:=∀ (t:Nd) (en:List Str) (oe:Go.Ev.Own) {h:H} {m f:Nat} {dep:Int} {fv v:AV} {F:List AV} {w:Go.Ev.Own} {S:List Str} {l:List Ins},t.dep≤d→arOk t=true→MS h m dep fv F w S→FS h m f v l →
 S.length+t.size≤1000000→F.length+t.size≤1000000→l.length+8*t.size≤1000000→en.length+2*t.dep≤1000000 →
 ∃ h' fv' v' N' w',evL E 42 [.ptr (some (f,0)),t.av,.sl oe (strs en)] h=some (.tup [],h') ∧
  fU m f dep h fv v F w (gen d t en S F.length l.length).1 (gen d t en S F.length l.length).2.1 (l++(gen d t en S F.length l.length).2.2) h' fv' v' N' w'
theorem body71:Tryz.f71.body=some (aC Tryz.f71 []):=rfl
theorem bound_run {E:Env} (e:EOk E) {d:Nat} (nr:NR E d) (k:Nd) (p:List Nat) (en:List Str) (oe:Go.Ev.Own) {h:H} {m f:Nat} {dep:Int} {fv v:AV} {F:List AV} {w:Go.Ev.Own} {S:List Str} {l:List Ins} (hd:k.dep≤d) (ha:arOk k=true) (M:MS h m dep fv F w S) (X:FS h m f v l)
  (b1:S.length+k.size≤1000000) (b2:F.length+k.size≤1000000) (b3:l.length+8*k.size+2≤1000000) (b4:en.length+1+2*k.dep≤1000000) :
  ∃ h' fv' v' N' w',evL E 71 [.ptr (some (f,0)),k.av,.str p,.sl oe (strs en)] h=some (.tup [],h') ∧
   fU m f dep h fv v F w (genB (gen d) k p en S F.length l.length).1 (genB (gen d) k p en S F.length l.length).2.1 (l++(genB (gen d) k p en S F.length l.length).2.2) h' fv' v' N' w':=by
 have hty:=e.ty
 have hpl:=e.pl
 have gn:∀ j,j<h.nx→(⟨h.t.set h.nx (.cells [.str k.op,.str k.name,.str k.arg,.int .i64 k.n,.int .i64 k.at_,.sl .no (avs k.kids)]),h.nx+1⟩:H).t.get j=h.t.get j:=fun j hj=>T.aD _ _ (by omega)
 have A0:=made_grow (m:=m) (f:=f) (dep:=dep) M X (Nat.le_succ _) gn
 obtain⟨h2,id,k1,A1⟩:=fV e (M.grow (Nat.le_succ _) gn) (X.grow (Nat.le_succ _) gn) (by omega) 6 0
 have hb2:h2.t.get h.nx=some (.cells [.str k.op,.str k.name,.str k.arg,.int .i64 k.n,.int .i64 k.at_,.sl .no (avs k.kids)]):=by
  rw[A1.st.keep h.nx (Nat.lt_succ_self _) (by
   rintro(h1|h1|h1|h1|h1)
   ·have:=M.mx;omega
   ·have:=X.fx;omega
   ·rcases M.fr with ⟨e,_⟩|⟨i,e,_,hi⟩
    ·rw[e]at h1;simp[cB]at h1
    ·rw[e]at h1;simp[cB]at h1;omega
   ·rcases M.sr with ⟨e,_⟩|⟨i,e,_,hi⟩
    ·rw[e]at h1;cases h1
    ·rw[e]at h1;injection h1 with h1;omega
   ·have:=X.cr.lt h1;omega)]
  exact T.bO _ _ _
 obtain⟨h3,ow,k3,n3,g3⟩:=under_run (E:=E) hty hpl (e.no 70 (by simp)) (e.no 114 (by simp)) e.gr e.fn (oa := .full) (ob:=oe) (a:=[(⟨p⟩:Str)]) (b:=en) (by simp;omega) h2
 have A2:=made_grow (m:=m) (f:=f) (dep:=dep) A1.ms0 A1.fs n3 g3
 obtain⟨h4,fv4,v4,N4,w4,k4,A3⟩:=nr k ((⟨p⟩:Str)::en) ow hd ha A2.ms0 A2.fs (by omega) (by omega) (by simp;omega) (by simp;omega)
 have hlen:=cW d k ((⟨p⟩:Str)::en) S F.length ((l++[(⟨6,0⟩:Ins)]).length) ha
 obtain⟨h5,id5,k5,A4⟩:=fV e A3.ms A3.fs (by have:=hlen.2.2;simp at this ⊢;omega) 7 0
 have AA:=(((A0.after A1).after A2).after A3).then A4
 simp only[List.length_append,List.length_cons,List.length_nil,Nat.zero_add,List.append_assoc,List.cons_append,List.nil_append]at AA
 have hb3:=(g3 h.nx A1.st.nx).trans hb2
 have K:evL E 71 [.ptr (some (f,0)),k.av,.str p,.sl oe (strs en)] h=some (.tup [],h5):=by
  rw[bE E (e.no 71 (by simp)) (by rw[e.fn];kernel_rfl) body71 _ _ rfl]
  simp only[aC,sub,Tryz.f71]
  rw[bZ k]at k4 ⊢
  rw[show strs [(⟨p⟩:Str)]=[AV.str p] from rfl]at k3
  simp[EVT,aT,bC,aX,bA,bT,aL,aN,aQ,bX,aV,AV.cells,aG,aZ,val,aH,aO,aM,bI,recheck,H.new,setArgs,bQ,bS,bJ,aR,TYC,hty,hpl,k1,hb2,hb3,k3,k4,k5]
 exact⟨h5,fv4,_,N4,w4,K,AA⟩
end Go.Proofs.YtogjplcnmibnlaaGreatDoor.Env
