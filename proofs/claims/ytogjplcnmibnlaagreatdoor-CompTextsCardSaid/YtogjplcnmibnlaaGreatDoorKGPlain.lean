/- The reference's verifier: to. -/
import Derived.Test.YtogjplcnmibnlaaGreatDoorKD
set_option autoImplicit false
set_option maxRecDepth 100000
set_option maxHeartbeats 8000000
set_option linter.unusedSimpArgs false
set_option linter.unusedVariables false
namespace Go.Proofs.YtogjplcnmibnlaaGreatDoor.Ck
open Go.Ev Go.Proofs.YtogjplcnmibnlaaGreatDoor.Env
open Go.Proofs.YtogjplcnmibnlaaGreatDoor.Pa (Gr cC bR)
section
variable {E:Go.Ev.Env} {K:Pg} {c fid:Nat} {sid:Nat→Nat} {ws:Go.Ev.Own} {h h':H} {col col':Nat→Nat} {q:Cq}
theorem CK.again (k:CK K c fid sid ws h col q) :
  CK K c fid sid ws ⟨h.t.set c (.cells [.int .i64 ↑K.dep,.sl .no (K.C.map cN),.sl .no (strs K.S),.sl ws (rowsA K sid),.rs fid K.C.length true,.bool true,q.fv,q.tv,.int .i64 ↑q.f]),h.nx⟩ col q ∧
  Fx (fun j=>j=c) h col ⟨h.t.set c (.cells [.int .i64 ↑K.dep,.sl .no (K.C.map cN),.sl .no (strs K.S),.sl ws (rowsA K sid),.rs fid K.C.length true,.bool true,q.fv,q.tv,.int .i64 ↑q.f]),h.nx⟩ col:=by
 have F3:Fx (fun j=>j=c) h col ⟨h.t.set c (.cells [.int .i64 ↑K.dep,.sl .no (K.C.map cN),.sl .no (strs K.S),.sl ws (rowsA K sid),.rs fid K.C.length true,.bool true,q.fv,q.tv,.int .i64 ↑q.f]),h.nx⟩ col:=
  ⟨Nat.le_refl _,fun j hj=>⟨rfl,fun hp=>T.aD _ _ hp⟩,fun hz=>hz⟩
 have nz:∀ j,col j=4∨col j=5∨col j=6→¬ j=c:=by
  rintro j hj rfl
  have:=k.cc.1
  omega
 exact⟨{
  g:=T.bO _ _ _
  frl:=k.frl
  fr:=(T.aD _ _ (Ne.symm k.ne_cf)).trans k.fr
  rl:=k.rl
  rows:=fun j hj=>(T.aD _ _ (Ne.symm (k.ne_cs hj))).trans (k.rows j hj)
  fu:=k.fu.fx F3 fun j hj=>nz j (.inl hj)
  tdo:=k.tdo.fx F3 fun j hj=>nz j (.inr (.inl hj))
  vals:=fun a i v x ha hv hx=>(k.vals a i v x ha hv hx).fx F3 fun j hj=>nz j (.inr (.inr hj))
  cc:=k.cc
  cf:=k.cf
  cs:=k.cs
  inj:=k.inj
  uss:=k.uss
  frs:=k.frs
  tss:=k.tss
  ff:=k.ff
  fz:=k.fz },F3⟩
theorem CK.mut_c (k:CK K c fid sid ws h col q):∀ j,j=c→Mut col j:=by
 rintro j rfl
 rw[Mut,k.cc.1];omega
theorem body58:Tryz.f58.body=some (aC Tryz.f58 []):=rfl
theorem to_run (e:KOk E) (k:CK K c fid sid ws h col q) {i:Nat} {x:Sx} {co:List Ins} (hco:K.C[q.f]?=some co) (hcl:co.length=(K.τ q.f).length) (hx:(K.τ q.f)[i]?=some x) {b0:Bool} {v:AV} (hv:SR h col 6 v x.tr) (htl:x.tr.length≤1000000) (hts:q.ts.length<1000000) :
  ∃ h' col' q',evL E 58 [.ptr (some (c,0)),.int .i64 ↑i,.agg [.bool b0,.int .i64 ↑x.h,.int .i64 ↑x.d,v]] h=some (.tup [],h')∧CK K c fid sid ws h' col' q'∧Fx (Mut col) h col h' col'∧q'.fv=q.fv∧q'.us=q.us∧q'.f=q.f∧q'.fr=q.fr ∧
   2*uv (q'.V q.f)+q'.ts.length≤2*uv (q.V q.f)+q.ts.length∧(∀ (j:Nat) (w:AV),(q.V q.f)[j]?=some (some w)→∃ w',(q'.V q.f)[j]?=some (some w')):=by
 have hty:=e.ty
 have hpl:=e.pl
 have hg:=k.g
 have hff:=k.ff
 have hi:i<(K.τ q.f).length:=aI hx
 have n0:ltI ↑i 0=false:=by rw[dI];simp
 have n1:ltI ↑i ↑co.length=true:=eR (by omega)
 have hpa:(K.C.map cN)[q.f]?=some (cN co):=by simp[hco]
 have hrow:=k.rows q.f hff
 have hra:=fW K sid hff
 have ncs:=k.ne_cs hff
 have hcb:=k.cc.2
 have hsb:=(k.cs q.f hff).2
 have nc0:c≠h.nx:=by omega
 have nc1:c≠h.nx+1:=by omega
 have nc2:c≠h.nx+1+1:=by omega
 have ns0:sid q.f≠h.nx:=by omega
 have ns1:sid q.f≠h.nx+1:=by omega
 have ns2:sid q.f≠h.nx+1+1:=by omega
 have n01:h.nx≠h.nx+1:=by omega
 have n02:h.nx≠h.nx+1+1:=by omega
 have n12:h.nx+1≠h.nx+1+1:=by omega
 have hlen:=eB (k.rl q.f hff)
 have hle:i*4+4≤(cellsOf (K.τ q.f) (q.V q.f)).length:=by rw[hlen];omega
 obtain⟨o,ho⟩:∃ o,(q.V q.f)[i]?=some o:=⟨_,List.getElem?_eq_getElem (by rw[k.rl q.f hff];exact hi)⟩
 have hget:=eK hx ho
 have vsh:=hv.shape
 cases o with
 | none=>
  have hset:=cellsOf_set (v:=v) hx (k.rl q.f hff)
  have hlen2:(cellsOf (K.τ q.f) ((q.V q.f).set i (some v))).length=(K.τ q.f).length*4:=eB (by rw[List.length_set];exact k.rl q.f hff)
  simp only[cellS]at hget
  obtain⟨hA,hhA⟩:∃ g:H,g=⟨(((((h.t.set h.nx (.cells [.bool b0,.int .i64 ↑x.h,.int .i64 ↑x.d,v])).set h.nx (.cells [.bool true,.int .i64 ↑x.h,.int .i64 ↑x.d,v])).set (h.nx+1) (.cells [.bool false,.int .i64 0,.int .i64 0,.sl .full []])).set (h.nx+1) (.cells [.bool false,.int .i64 0,.int .i64 0,.sl .full []])).set (sid q.f) (.row (K.τ q.f).length 107 4 (cellsOf (K.τ q.f) ((q.V q.f).set i (some v))))).set (h.nx+1+1) (.row 1 3 1 [.int .i64 ↑i]),h.nx+1+1+1⟩:=⟨_,rfl⟩
  have FA:Fx (fun j=>j=sid q.f) h col hA col:=by
   rw[hhA]
   exact⟨by simp only;omega,fun j hj=>⟨rfl,fun hp=>(T.aD _ _ (by omega)).trans ((T.aD _ _ hp).trans ((T.aD _ _ (by omega)).trans ((T.aD _ _ (by omega)).trans ((T.aD _ _ (by omega)).trans (T.aD _ _ (by omega))))))⟩,fun hz j hj=>hz j (by have:h.nx+1+1+1≤j:=hj;omega)⟩
  have hsc:=(k.cs q.f hff).1
  have sA:=k.tdo.fx FA (fun j hj hp=>by rw[hp,hsc]at hj;omega)
  obtain⟨v',h2,col',k2,s2,F2⟩:=appR_sr sA hts (i1:=h.nx+1+1) (x:=i) (by rw[hhA];exact T.bO _ _ _)
  have F12:Fx (fun j=>j=sid q.f∨col j=5) h col h2 col':=⟨Nat.le_trans FA.nx F2.nx,fun j hj=>by
   obtain⟨a1,a2⟩:=FA.keep j hj
   obtain⟨b1,b2⟩:=F2.keep j (Nat.lt_of_lt_of_le hj FA.nx)
   exact⟨b1.trans a1,fun hp=>(b2 fun h4=>hp (.inr h4)).trans (a2 fun h4=>hp (.inl h4))⟩,fun hz=>F2.fz (FA.fz hz)⟩
  have g2c:h2.t.get c=some (.cells [.int .i64 ↑K.dep,.sl .no (K.C.map cN),.sl .no (strs K.S),.sl ws (rowsA K sid),.rs fid K.C.length true,.bool true,q.fv,q.tv,.int .i64 ↑q.f]):=
   ((F12.keep c hcb).2 (by rintro(h1|h1);exact ncs h1;have:=k.cc.1;omega)).trans hg
  have g2s:h2.t.get (sid q.f)=some (.row (K.τ q.f).length 107 4 (cellsOf (K.τ q.f) ((q.V q.f).set i (some v)))):=by
   have h1:hA.t.get (sid q.f)=some (.row (K.τ q.f).length 107 4 (cellsOf (K.τ q.f) ((q.V q.f).set i (some v)))):=by rw[hhA];exact(T.aD _ _ ns2).trans (T.bO _ _ _)
   exact((F2.keep _ (Nat.lt_of_lt_of_le hsb FA.nx)).2 (by omega)).trans h1
  have F3:Fx (fun j=>j=sid q.f∨col j=5∨j=c) h col ⟨h2.t.set c (.cells [.int .i64 ↑K.dep,.sl .no (K.C.map cN),.sl .no (strs K.S),.sl ws (rowsA K sid),.rs fid K.C.length true,.bool true,q.fv,v',.int .i64 ↑q.f]),h2.nx⟩ col':=
   ⟨F12.nx,fun j hj=>⟨(F12.keep j hj).1,fun hp=>(T.aD _ _ fun e=>hp (.inr (.inr e))).trans ((F12.keep j hj).2 fun h1=>hp (h1.elim .inl fun h2 => .inr (.inl h2)))⟩,F12.fz⟩
  have ne6:∀ j,col j=4∨col j=6→¬ (j=sid q.f∨col j=5∨j=c):=by
   rintro j hj (h1|h1|h1)
   ·rw[h1,hsc]at hj;omega
   ·omega
   ·rw[h1,k.cc.1]at hj;omega
  have hmono:∀ (j:Nat) (w:AV),(q.V q.f)[j]?=some (some w)→∃ w',((q.V q.f).set i (some v))[j]?=some (some w'):=by
   intro j w hw
   rw[List.getElem?_set]
   split
   ·rename_i e1;subst e1;rw[ho]at hw;cases hw
   ·exact⟨w,hw⟩
  refine⟨⟨h2.t.set c (.cells [.int .i64 ↑K.dep,.sl .no (K.C.map cN),.sl .no (strs K.S),.sl ws (rowsA K sid),.rs fid K.C.length true,.bool true,q.fv,v',.int .i64 ↑q.f]),h2.nx⟩,col',{ q with tv:=v',ts:=q.ts++[i],V:=fun j=>if j=q.f then(q.V q.f).set i (some v)else q.V j },?_,?_,F3.mut ?_,rfl,rfl,rfl,rfl,?_,?_⟩
  ·rw[bE E (e.no 58 (by simp)) (by rw[e.fn];kernel_rfl) body58 _ _ rfl]
   simp only[aC,sub,Tryz.f58]
   subst hhA
   have hv':=s2.shape
   clear s2 F3 F12 F2 g2s FA sA ne6 hv hmono
   rcases hv' with rfl|⟨id1,m1,rfl⟩|⟨id1,m1,m2,rfl⟩<;>rcases vsh with rfl|⟨id2,m3,rfl⟩|⟨id2,m3,m4,rfl⟩ <;>
    simp[EVT,aT,bC,aX,bA,bT,aL,aN,aQ,bX,bF,aV,AV.cells,aG,aZ,val,aH,bN,bP,aU,aO,aM,bY,bI,recheck,H.new,H.put,aY,bB,AV.one,setArgs,bQ,bS,bJ,aR,aP,bK,TYC,TYK,MTK,hty,hpl,hg,n0,n1,hpa,cN,hrow,hra,hi,hget,hle,hset,ncs,nc0,nc1,ns0,ns1,k2,g2c]
  ·exact {
    g:=T.bO _ _ _
    frl:=k.frl
    fr:=((F3.keep fid k.cf.2).2 (by
     rintro(h1|h1|h1)
     ·exact k.ne_fs hff h1
     ·rw[k.cf.1]at h1;omega
     ·exact k.ne_cf h1.symm)).trans k.fr
    rl:=fun j hj=>by
     simp only[]
     split
     ·rename_i e1;subst e1;rw[List.length_set];exact k.rl _ hj
     ·exact k.rl j hj
    rows:=fun j hj=>by
     simp only[]
     split
     ·rename_i e1
      subst e1
      exact(T.aD _ _ (Ne.symm ncs)).trans g2s
     ·rename_i e1
      refine((F3.keep (sid j) (k.cs j hj).2).2 ?_).trans (k.rows j hj)
      rintro(h1|h1|h1)
      ·exact e1 (k.inj _ _ hj hff h1)
      ·rw[(k.cs j hj).1]at h1;omega
      ·exact k.ne_cs hj h1.symm
    fu:=k.fu.fx F3 fun j hj=>ne6 j (.inl hj)
    tdo:=s2.fx (P:=fun j=>j=c) ⟨Nat.le_refl _,fun j hj=>⟨rfl,fun hp=>T.aD _ _ hp⟩,fun hz=>hz⟩ (fun j hj h1=>by
     rw[h1,(F12.keep c hcb).1,k.cc.1]at hj
     omega)
    vals:=fun a j w y ha hw hy=>by
     simp only[]at hw
     split at hw
     ·rename_i e1
      subst e1
      rw[List.getElem?_set]at hw
      split at hw
      ·rename_i e2
       subst e2
       rw[hx]at hy
       simp only[Option.some.injEq]at hy
       subst hy
       split at hw
       ·simp only[Option.some.injEq]at hw
        subst hw
        exact hv.fx F3 fun j hj=>ne6 j (.inr hj)
       ·cases hw
      ·exact(k.vals _ j w y ha hw hy).fx F3 fun j hj=>ne6 j (.inr hj)
     ·exact(k.vals a j w y ha hw hy).fx F3 fun j hj=>ne6 j (.inr hj)
    cc:=⟨by rw[(F3.keep c hcb).1];exact k.cc.1,Nat.lt_of_lt_of_le hcb F3.nx⟩
    cf:=⟨by rw[(F3.keep fid k.cf.2).1];exact k.cf.1,Nat.lt_of_lt_of_le k.cf.2 F3.nx⟩
    cs:=fun j hj=>⟨by rw[(F3.keep _ (k.cs j hj).2).1];exact(k.cs j hj).1,Nat.lt_of_lt_of_le (k.cs j hj).2 F3.nx⟩
    inj:=k.inj
    uss:=k.uss
    frs:=k.frs
    tss:=fun j hj=>by
     simp only[if_true]
     rcases List.mem_append.1 hj with hj|hj
     ·obtain⟨w,hw⟩:=k.tss j hj
      exact hmono j w hw
     ·rw[List.mem_singleton.1 hj]
      exact⟨v,by rw[List.getElem?_set,if_pos rfl,if_pos (by rw[k.rl q.f hff];exact hi)]⟩
    ff:=k.ff
    fz:=F3.fz k.fz }
  ·rintro j (h1|h1|h1)
   ·rw[Mut,h1,hsc];omega
   ·rw[Mut];omega
   ·rw[Mut,h1,k.cc.1];omega
  ·have:=uv_set (y:=v) ho
   simp only[if_true,List.length_append,List.length_cons,List.length_nil]
   omega
  ·intro j w hw
   simp only[if_true]
   exact hmono j w hw
 | some w=>
  simp only[cellS]at hget
  have sw:=k.vals q.f i w x hff ho hx
  have wsh:=sw.shape
  obtain⟨hA,hhA⟩:∃ g:H,g=⟨(((h.t.set h.nx (.cells [.bool b0,.int .i64 ↑x.h,.int .i64 ↑x.d,v])).set h.nx (.cells [.bool true,.int .i64 ↑x.h,.int .i64 ↑x.d,v])).set (h.nx+1) (.cells [.bool false,.int .i64 0,.int .i64 0,.sl .full []])).set (h.nx+1) (.cells [.bool true,.int .i64 ↑x.h,.int .i64 ↑x.d,w]),h.nx+1+1⟩:=⟨_,rfl⟩
  have GA:Gr h hA:=by
   rw[hhA]
   exact⟨by simp only;omega,fun j hj=>(T.aD _ _ (by omega)).trans ((T.aD _ _ (by omega)).trans ((T.aD _ _ (by omega)).trans (T.aD _ _ (by omega))))⟩
  obtain⟨h9,k9,G9⟩:=same_run e (b1:=true) (b2:=true) (x:=↑x.h) (y:=↑x.d) htl (sw.gr GA).sl (hv.gr GA).sl
  have k9c:=k.gr (GA.trans G9)
  obtain⟨kA,FA⟩:=k9c.again
  have g9:=k9c.g
  refine⟨_,col,q,?_,kA,(Fx.gr (GA.trans G9) _ _).trans (FA.mut k9c.mut_c),rfl,rfl,rfl,rfl,Nat.le_refl _,fun j w hw=>⟨w,hw⟩⟩
  rw[bE E (e.no 58 (by simp)) (by rw[e.fn];kernel_rfl) body58 _ _ rfl]
  simp only[aC,sub,Tryz.f58]
  subst hhA
  clear kA FA k9c G9 GA sw hv
  rcases wsh with rfl|⟨id1,m1,rfl⟩|⟨id1,m1,m2,rfl⟩<;>rcases vsh with rfl|⟨id2,m3,rfl⟩|⟨id2,m3,m4,rfl⟩ <;>
   simp[EVT,aT,bC,aX,bA,bT,aL,aN,aQ,bX,bF,aV,AV.cells,aG,aZ,val,aH,bN,bP,aU,aO,aM,bY,bI,recheck,H.new,H.put,aY,bB,AV.one,setArgs,bQ,bS,bJ,aR,aP,bK,TYC,TYK,MTK,hty,hpl,hg,n0,n1,hpa,cN,hrow,hra,hi,hget,hle,ncs,nc0,nc1,ns0,ns1,k9,g9]
end
def eG:List Int:=[1,8,9,16,17,18,19,20,21,22,23,24,25,26,27,28,29,30,31,32,33,34,35]
inductive IOk (K:Pg) (f i:Nat) (x:Sx):Ins→Prop
 | plain (op N:Int) (hop:op∈eG) (hf:cM x.tr+(takesF op).1≤x.h) (hn:(K.τ f)[i+1]?=some ⟨x.h-(takesF op).1+(takesF op).2,x.d,x.tr⟩):IOk K f i x ⟨op,N⟩
 | str (N:Nat) (hN:N<K.S.length) (hf:cM x.tr≤x.h) (hn:(K.τ f)[i+1]?=some ⟨x.h+1,x.d,x.tr⟩):IOk K f i x ⟨2,↑N⟩
 | get (N:Nat) (hN:N<x.d) (hf:cM x.tr≤x.h) (hn:(K.τ f)[i+1]?=some ⟨x.h+1,x.d,x.tr⟩):IOk K f i x ⟨3,↑N⟩
 | clos (n:Nat) (hN:n<K.C.length) (hD:K.D n=x.d+1) (hf:cM x.tr≤x.h) (hn:(K.τ f)[i+1]?=some ⟨x.h+1,x.d,x.tr⟩):IOk K f i x ⟨4,↑n⟩
 | recu (n:Nat) (hN:n<K.C.length) (hD:K.D n=x.d+2) (hf:cM x.tr≤x.h) (hn:(K.τ f)[i+1]?=some ⟨x.h+1,x.d,x.tr⟩):IOk K f i x ⟨5,↑n⟩
 | bind (N:Int) (hf:cM x.tr+1≤x.h) (hn:(K.τ f)[i+1]?=some ⟨x.h-1,x.d+1,x.tr⟩):IOk K f i x ⟨6,N⟩
 | drop (N:Int) (hf:cM x.tr≤x.h) (hd:K.D f+1≤x.d) (hn:(K.τ f)[i+1]?=some ⟨x.h,x.d-1,x.tr⟩):IOk K f i x ⟨7,N⟩
 | ret (N:Int) (h1:x.h=1) (h2:x.d=K.D f) (h3:x.tr=[]):IOk K f i x ⟨10,N⟩
 | jmp (t:Nat) (hf:cM x.tr≤x.h) (ht:(K.τ f)[t]?=some x):IOk K f i x ⟨11,↑t⟩
 | jz (t:Nat) (hf:cM x.tr+1≤x.h) (ht:(K.τ f)[t]?=some ⟨x.h-1,x.d,x.tr⟩) (hn:(K.τ f)[i+1]?=some ⟨x.h-1,x.d,x.tr⟩):IOk K f i x ⟨12,↑t⟩
 | case (t:Nat) (hf:cM x.tr+1≤x.h) (ht:(K.τ f)[t]?=some ⟨x.h-1,x.d,x.tr⟩) (hn:(K.τ f)[i+1]?=some ⟨x.h-1,x.d+2,x.tr⟩):IOk K f i x ⟨13,↑t⟩
 | tri (t:Nat) (hf:cM x.tr≤x.h) (ht:(K.τ f)[t]?=some ⟨x.h+1,x.d,x.tr⟩) (hn:(K.τ f)[i+1]?=some ⟨x.h,x.d,x.tr++[x.h]⟩):IOk K f i x ⟨14,↑t⟩
 | untri (N:Int) (l:List Nat) (a:Nat) (hl:x.tr=l++[a]) (hf:cM x.tr≤x.h) (hn:(K.τ f)[i+1]?=some ⟨x.h,x.d,l⟩):IOk K f i x ⟨15,N⟩
section
variable {E:Go.Ev.Env} {K:Pg} {c fid:Nat} {sid:Nat→Nat} {ws:Go.Ev.Own} {h h':H} {col col':Nat→Nat} {q:Cq}
def StepR (K:Pg) (c fid:Nat) (sid:Nat→Nat) (ws:Go.Ev.Own) (h:H) (col:Nat→Nat) (q:Cq) (y:Option (AV × H)):Prop:=
 ∃ h' col' q',y=some (.tup [],h')∧CK K c fid sid ws h' col' q'∧Fx (Mut col) h col h' col'∧q'.f=q.f∧Wq q'=Wq q∧(∃ l,q'.us=q.us++l) ∧
  2*uv (q'.V q.f)+q'.ts.length≤2*uv (q.V q.f)+q.ts.length∧∀ (j:Nat) (w:AV),(q.V q.f)[j]?=some (some w)→∃ w',(q'.V q.f)[j]?=some (some w')
theorem cut_sr {k:Nat} {v:AV} {l:List Nat} {a:Nat} (s:SR h col k v (l++[a])) :
  ∃ id n,(v = .rs id n true∧n=l.length+1∨v = .rv id n (l.length+1))∧l.length+1≤n∧SR h col k (.rv id n l.length) l:=by
 rcases s with ⟨_,h2⟩|⟨id,L,n,h1,hb,h2,h3,h4,h5,h6⟩
 ·simp at h2
 ·have hn:l.length+1=n:=by
   have:=congrArg List.length h2
   rw[List.length_take,List.length_append]at this
   simp at this
   omega
  have hl:l=L.take l.length:=by
   have:=congrArg (List.take l.length) h2
   rw[List.take_left,List.take_take,Nat.min_eq_left (by omega)]at this
   exact this
  refine⟨id,L.length,?_,by omega,.inr ⟨id,L,l.length,by omega,hb,hl,h3,h4,h5,.inl rfl⟩⟩
  rcases h6 with rfl|⟨h6,rfl⟩
  ·exact .inr (by rw[hn])
  ·exact .inl ⟨rfl,by omega⟩
theorem copyApp_sr {k:Nat} {v:AV} {l:List Nat} (s:SR h col k v l) (hl:l.length<1000000) {i1 x:Nat} (h1:h.t.get i1=some (.row 1 3 1 [.int .i64 ↑x])) (hi:i1<h.nx) :
  ∃ v1 h5 v2 h6 col6,eQ 3 1 8 h (.sl .full []) v=some (v1,h5)∧eQ 3 1 8 h5 v1 (.rs i1 1 true)=some (v2,h6)∧SR h6 col6 6 v2 (l++[x])∧Fx (fun _=>False) h col h6 col6∧∀ j,j<h.nx→h5.t.get j=h.t.get j:=by
 have new:∀ (h5:H),h.nx≤h5.nx→h5.nx≤h.nx+1→(∀ j,j<h.nx→h5.t.get j=h.t.get j)→∀ (h6:H) (v2:AV),h6.nx=h.nx+1→(∀ j,j<h.nx→h6.t.get j=h.t.get j)→v2 = .rs h.nx (l.length+1) true→h6.t.get h.nx=some (.row (l.length+1) 3 1 (intA (l++[x]))) →
   SR h6 (fun j=>if j=h.nx then 6 else col j) 6 v2 (l++[x])∧Fx (fun _=>False) h col h6 (fun j=>if j=h.nx then 6 else col j):=by
  intro h5 _ _ _ h6 v2 hn hk hv hg
  have hll:(l++[x]).length=l.length+1:=by simp
  refine⟨.inr ⟨h.nx,l++[x],l.length+1,by omega,by omega,by rw[←hll,List.take_length],by rw[hll];exact hg,by omega,by simp,.inr ⟨hll.symm,by rw[hv,hll]⟩⟩,by omega,fun j hj=>⟨if_neg (by omega),fun _=>hk j hj⟩,fun hz j hj => ?_⟩
  show(if j=h.nx then 6 else col j)=0
  rw[if_neg (by omega)]
  exact hz j (by omega)
 have hb:l.length*8≤140737488355328:=by omega
 have hb1:(l.length+1)*8≤140737488355328:=by omega
 have row1:∀ h5:H,h5.t.get i1=h.t.get i1→eO 1 h5 (.rs i1 1 true)=some (1,[.int .i64 ↑x]):=by
  intro h5 he
  rw[h1]at he
  simp[eO,he,bB,AV.one]
 cases l with
 | nil=>
  have hr:eO 1 h v=some (0,[]):=by
   rcases s.cases with ⟨rfl,_⟩|⟨id,n,L,g1,g2,g3,g4,g5,g6,g7⟩
   ·simp[eO,aM,bY]
   ·rcases g7 with rfl|⟨rfl,g7⟩
    ·simp[eO,g1,bB]
    ·have hL:L=[]:=List.eq_nil_of_length_eq_zero (by rw[g4,g7];rfl)
     subst hL
     simp[eO,g1,bB,intA]
     exact g7
  have e1:eQ 3 1 8 h (.sl .full []) v=some (.sl .full [],h):=by
   unfold eQ
   rw[hr]
   simp[ble_dec,blt_dec]
  have e2:eQ 3 1 8 h (.sl .full []) (.rs i1 1 true)=some (.rs h.nx 1 true,h.new (.row 1 3 1 [.int .i64 ↑x])):=by
   unfold eQ
   rw[row1 h rfl]
   simp[ble_dec,blt_dec,fM]
  obtain⟨r1,r2⟩:=new h (Nat.le_refl _) (by omega) (fun _ _=>rfl) (h.new (.row 1 3 1 [.int .i64 ↑x])) (.rs h.nx 1 true) rfl (fun j hj=>T.aD _ _ (by omega)) rfl (T.bO _ _ _)
  exact⟨_,_,_,_,_,e1,e2,r1,r2,fun _ _=>rfl⟩
 | cons a l'=>
  generalize hl0:a::l'=l at *
  have hz:l.length≠0:=by rw[←hl0];simp
  have hr:eO 1 h v=some (l.length,intA l):=by
   have ho:=intA_one l
   rcases s.cases with ⟨_,e0⟩|⟨id,n,L,g1,g2,g3,g4,g5,g6,g7⟩
   ·rw[e0]at hz;simp at hz
   ·rcases g7 with rfl|⟨rfl,rfl⟩
    ·have ht:(intA L).take l.length=intA l:=by rw[intA_take,←g6]
     simp[eO,g1,ht,ho]
    ·have hL:L=l:=by rw[g6,←g4];exact List.take_length.symm
     subst hL
     simp[eO,g1,ho]
  have e1:eQ 3 1 8 h (.sl .full []) v=some (.rs h.nx l.length true,h.new (.row l.length 3 1 (intA l))):=by
   unfold eQ
   rw[hr]
   simp[ble_dec,blt_dec,fM,hb,hz,intA_len]
  have hgn:(h.new (.row l.length 3 1 (intA l))).t.get h.nx=some (.row l.length 3 1 (intA l)):=T.bO _ _ _
  have hg1:(h.new (.row l.length 3 1 (intA l))).t.get i1=h.t.get i1:=T.aD _ _ (by omega)
  have e2:eQ 3 1 8 (h.new (.row l.length 3 1 (intA l))) (.rs h.nx l.length true) (.rs i1 1 true)=some (.rs h.nx (l.length+1) true,(h.new (.row l.length 3 1 (intA l))).put h.nx (.row (l.length+1) 3 1 (intA l++[.int .i64 ↑x]))):=by
   unfold eQ
   rw[row1 _ hg1]
   simp[hgn,ble_dec,blt_dec,fM,hb1]
  obtain⟨r1,r2⟩:=new (h.new (.row l.length 3 1 (intA l))) (Nat.le_succ _) (Nat.le_refl _) (fun j hj=>T.aD _ _ (by omega)) ((h.new (.row l.length 3 1 (intA l))).put h.nx (.row (l.length+1) 3 1 (intA l++[.int .i64 ↑x]))) (.rs h.nx (l.length+1) true) rfl (fun j hj=>(T.aD _ _ (by omega)).trans (T.aD _ _ (by omega))) rfl (by rw[intA_app];exact T.bO _ _ _)
  exact⟨_,_,_,_,_,e1,e2,r1,r2,fun j hj=>T.aD _ _ (by omega)⟩
theorem Fx.two {a b d:H} {x y z:Nat→Nat} (F:Fx (Mut x) a x b y) (G:Fx (Mut y) b y d z):Fx (Mut x) a x d z:=
 ⟨Nat.le_trans F.nx G.nx,fun j hj=>by
  obtain⟨f1,f2⟩:=F.keep j hj
  obtain⟨g1,g2⟩:=G.keep j (Nat.lt_of_lt_of_le hj F.nx)
  exact⟨g1.trans f1,fun hp=>(g2 (by rw[Mut,f1];exact hp)).trans (f2 hp)⟩,fun h=>G.fz (F.fz h)⟩
theorem Fx.none {a b d:H} {x y z:Nat→Nat} (F:Fx (Mut x) a x b y) (G:Fx (fun _=>False) b y d z):Fx (Mut x) a x d z:=
 ⟨Nat.le_trans F.nx G.nx,fun j hj=>by
  obtain⟨f1,f2⟩:=F.keep j hj
  obtain⟨g1,g2⟩:=G.keep j (Nat.lt_of_lt_of_le hj F.nx)
  exact⟨g1.trans f1,fun hp=>(g2 id).trans (f2 hp)⟩,fun h=>G.fz (F.fz h)⟩
theorem Fx.loc {a b:H} {x y:Nat→Nat} (F:Fx (Mut x) a x b y) {r:Nat} (hr:a.nx≤r) (X:Go.Ev.Obj):Fx (Mut x) a x ⟨b.t.set r X,b.nx⟩ y:=
 ⟨F.nx,fun j hj=>⟨(F.keep j hj).1,fun hp=>(T.aD _ _ (by omega)).trans ((F.keep j hj).2 hp)⟩,F.fz⟩
theorem CK.loc (k:CK K c fid sid ws h col q) {r:Nat} (hr:col r=0) (X:Go.Ev.Obj):CK K c fid sid ws ⟨h.t.set r X,h.nx⟩ col q:=
 k.fx (P:=fun j=>j=r) ⟨Nat.le_refl _,fun j hj=>⟨rfl,fun hp=>T.aD _ _ hp⟩,fun hz=>hz⟩ (by rintro j h1 h2 rfl;omega)
theorem CK.fxn (k:CK K c fid sid ws h col q) (F:Fx (fun _=>False) h col h' col'):CK K c fid sid ws h' col' q:=k.fx F fun _ _ _=>id
theorem CK.frm (k:CK K c fid sid ws h col q) (hu:q.f∈q.us):(intI q.fr)[q.f]?=some (.int .i64 ↑(K.D q.f)):=by
 have:=(k.uss _ hu).2
 simp[intI,this]
end
end Go.Proofs.YtogjplcnmibnlaaGreatDoor.Ck
namespace Go.Proofs.YtogjplcnmibnlaaGreatDoor.Ck
open Go.Ev Go.Proofs.YtogjplcnmibnlaaGreatDoor.Env
structure Cx where
 D:Nat→Nat
 nS:Nat
 nC:Nat
inductive IOk' (X:Cx) (df:Nat) (st:Nat→Option Sx) (i:Nat) (x:Sx):Ins→Prop
 | plain (op N:Int) (hop:op∈eG) (hf:cM x.tr+(takesF op).1≤x.h) (hn:st (i+1)=some ⟨x.h-(takesF op).1+(takesF op).2,x.d,x.tr⟩):IOk' X df st i x ⟨op,N⟩
 | str (N:Nat) (hN:N<X.nS) (hf:cM x.tr≤x.h) (hn:st (i+1)=some ⟨x.h+1,x.d,x.tr⟩):IOk' X df st i x ⟨2,↑N⟩
 | get (N:Nat) (hN:N<x.d) (hf:cM x.tr≤x.h) (hn:st (i+1)=some ⟨x.h+1,x.d,x.tr⟩):IOk' X df st i x ⟨3,↑N⟩
 | clos (n:Nat) (hN:n<X.nC) (hD:X.D n=x.d+1) (hf:cM x.tr≤x.h) (hn:st (i+1)=some ⟨x.h+1,x.d,x.tr⟩):IOk' X df st i x ⟨4,↑n⟩
 | recu (n:Nat) (hN:n<X.nC) (hD:X.D n=x.d+2) (hf:cM x.tr≤x.h) (hn:st (i+1)=some ⟨x.h+1,x.d,x.tr⟩):IOk' X df st i x ⟨5,↑n⟩
 | bind (N:Int) (hf:cM x.tr+1≤x.h) (hn:st (i+1)=some ⟨x.h-1,x.d+1,x.tr⟩):IOk' X df st i x ⟨6,N⟩
 | drop (N:Int) (hf:cM x.tr≤x.h) (hd:df+1≤x.d) (hn:st (i+1)=some ⟨x.h,x.d-1,x.tr⟩):IOk' X df st i x ⟨7,N⟩
 | ret (N:Int) (h1:x.h=1) (h2:x.d=df) (h3:x.tr=[]):IOk' X df st i x ⟨10,N⟩
 | jmp (t:Nat) (hf:cM x.tr≤x.h) (ht:st t=some x):IOk' X df st i x ⟨11,↑t⟩
 | jz (t:Nat) (hf:cM x.tr+1≤x.h) (ht:st t=some ⟨x.h-1,x.d,x.tr⟩) (hn:st (i+1)=some ⟨x.h-1,x.d,x.tr⟩):IOk' X df st i x ⟨12,↑t⟩
 | case (t:Nat) (hf:cM x.tr+1≤x.h) (ht:st t=some ⟨x.h-1,x.d,x.tr⟩) (hn:st (i+1)=some ⟨x.h-1,x.d+2,x.tr⟩):IOk' X df st i x ⟨13,↑t⟩
 | tri (t:Nat) (hf:cM x.tr≤x.h) (ht:st t=some ⟨x.h+1,x.d,x.tr⟩) (hn:st (i+1)=some ⟨x.h,x.d,x.tr++[x.h]⟩):IOk' X df st i x ⟨14,↑t⟩
 | untri (N:Int) (l:List Nat) (a:Nat) (hl:x.tr=l++[a]) (hf:cM x.tr≤x.h) (hn:st (i+1)=some ⟨x.h,x.d,l⟩):IOk' X df st i x ⟨15,N⟩
theorem IOk'.to {K:Pg} {f i:Nat} {x:Sx} {ins:Ins} (h:IOk' ⟨K.D,K.S.length,K.C.length⟩ (K.D f) (fun j=>(K.τ f)[j]?) i x ins):IOk K f i x ins:=by
 cases h with
 | plain op N hop hf hn=>exact .plain op N hop hf hn
 | str N hN hf hn=>exact .str N hN hf hn
 | get N hN hf hn=>exact .get N hN hf hn
 | clos n hN hD hf hn=>exact .clos n hN hD hf hn
 | recu n hN hD hf hn=>exact .recu n hN hD hf hn
 | bind N hf hn=>exact .bind N hf hn
 | drop N hf hd hn=>exact .drop N hf hd hn
 | ret N h1 h2 h3=>exact .ret N h1 h2 h3
 | jmp t hf ht=>exact .jmp t hf ht
 | jz t hf ht hn=>exact .jz t hf ht hn
 | case t hf ht hn=>exact .case t hf ht hn
 | tri t hf ht hn=>exact .tri t hf ht hn
 | untri N l a hl hf hn=>exact .untri N l a hl hf hn
def Bd (z:Sx):Prop:=z.h≤100000∧z.d≤100000∧z.tr.length≤100000
structure Seg (X:Cx) (df:Nat) (c:List Ins) (pos:Nat) (x:Sx) (ts:List Sx) (y:Sx):Prop where
 len:ts.length=c.length
 hd:(ts++[y])[0]?=some x
 ok:∀ st:Nat→Option Sx,(∀ j z,(ts++[y])[j]?=some z→st (pos+j)=some z)→∀ i ins z,c[i]?=some ins→ts[i]?=some z→IOk' X df st (pos+i) z ins
 bd:∀ z∈ts,Bd z
theorem seg_app {X:Cx} {df:Nat} {c1 c2:List Ins} {pos:Nat} {x y z:Sx} {t1 t2:List Sx} (a:Seg X df c1 pos x t1 y) (b:Seg X df c2 (pos+c1.length) y t2 z):Seg X df (c1++c2) pos x (t1++t2) z where
 len:=by rw[List.length_append,List.length_append,a.len,b.len]
 hd:=by
  have h1:=a.hd
  have h2:=b.hd
  cases t1 with
  | nil=>simp at h1;subst h1;simpa using h2
  | cons u l=>simpa using h1
 ok:=fun st hst i ins w hi hw=>by
  have hb0:=b.hd
  have sa:∀ j u,(t1++[y])[j]?=some u→st (pos+j)=some u:=by
   intro j u hu
   rcases Nat.lt_or_ge j t1.length with h1|h1
   ·rw[List.getElem?_append_left h1]at hu
    exact hst j u (by rw[List.append_assoc,List.getElem?_append_left h1];exact hu)
   ·have hj:j=t1.length:=by have:=aI hu;simp at this;omega
    subst hj
    simp at hu
    subst hu
    exact hst _ _ (by rw[List.append_assoc,List.getElem?_append_right (Nat.le_refl _),Nat.sub_self];exact hb0)
  have sb:∀ j u,(t2++[z])[j]?=some u→st (pos+c1.length+j)=some u:=by
   intro j u hu
   have:=hst (t1.length+j) u (by rw[List.append_assoc,List.getElem?_append_right (Nat.le_add_right _ _),Nat.add_sub_cancel_left];exact hu)
   rw[a.len]at this
   rw[Nat.add_assoc]
   exact this
  rcases Nat.lt_or_ge i c1.length with h1|h1
  ·rw[List.getElem?_append_left h1]at hi
   rw[List.getElem?_append_left (by rw[a.len];exact h1)]at hw
   exact a.ok st sa i ins w hi hw
  ·rw[List.getElem?_append_right h1]at hi
   rw[List.getElem?_append_right (by rw[a.len];exact h1),a.len]at hw
   have:=b.ok st sb (i-c1.length) ins w hi hw
   rwa [show pos+c1.length+(i-c1.length)=pos+i by omega]at this
 bd:=fun w hw=>(List.mem_append.1 hw).elim (a.bd w) (b.bd w)
theorem seg_nil {X:Cx} {df pos:Nat} (x:Sx):Seg X df [] pos x [] x:=⟨rfl,rfl,fun st _ i ins z hi=>by simp at hi,fun z hz=>by simp at hz⟩
theorem seg_one {X:Cx} {df pos:Nat} {x y:Sx} {ins:Ins} (h:∀ st:Nat→Option Sx,st (pos+1)=some y→IOk' X df st pos x ins) (hb:Bd x):Seg X df [ins] pos x [x] y where
 len:=rfl
 hd:=rfl
 ok:=fun st hst i ins' z hi hz=>by
  cases i with
  | zero=>
   simp at hi hz
   subst hi;subst hz
   exact h st (hst 1 y rfl)
  | succ i=>simp at hi
 bd:=fun z hz=>by rw[List.mem_singleton.1 hz];exact hb
theorem seg_two {X:Cx} {df pos:Nat} {x xa xb y:Sx} {op:Int} {a b:List Ins} {ta tb:List Sx}
  (h:∀ st:Nat→Option Sx,st (pos+1)=some xa→st (pos+1+a.length+1)=some xb→IOk' X df st pos x ⟨op,↑(pos+1+a.length+1)⟩) (hy:cM y.tr≤y.h) (hbx:Bd x) (hby:Bd y)
  (sa:Seg X df a (pos+1) xa ta y) (sb:Seg X df b (pos+1+a.length+1) xb tb y) :
  Seg X df (⟨op,↑(pos+1+a.length+1)⟩::(a++⟨11,↑(pos+1+a.length+1+b.length)⟩::b)) pos x (x::(ta++y::tb)) y where
 len:=by simp[sa.len,sb.len]
 hd:=rfl
 ok:=fun st hst i ins z hi hz=>by
  have la:=sa.len
  have lb:=sb.len
  have pa:∀ j u,(ta++[y])[j]?=some u→st (pos+1+j)=some u:=by
   intro j u hu
   have:=hst (j+1) u (by
    rw[List.cons_append,List.getElem?_cons_succ,List.append_assoc]
    rcases Nat.lt_or_ge j ta.length with h1|h1
    ·rw[List.getElem?_append_left h1]at hu ⊢;exact hu
    ·have hj:j=ta.length:=by have:=aI hu;simp at this;omega
     subst hj
     simp at hu
     subst hu
     simp)
   rw[show pos+1+j=pos+(j+1) by omega]
   exact this
  have pb:∀ j u,(tb++[y])[j]?=some u→st (pos+1+a.length+1+j)=some u:=by
   intro j u hu
   have:=hst (ta.length+2+j) u (by
    rw[List.cons_append,show ta.length+2+j=(ta.length+(j+1))+1 by omega,List.getElem?_cons_succ,List.append_assoc,List.getElem?_append_right (Nat.le_add_right _ _),Nat.add_sub_cancel_left,List.cons_append,List.getElem?_cons_succ]
    exact hu)
   rw[la]at this
   rw[show pos+1+a.length+1+j=pos+(a.length+2+j) by omega]
   exact this
  have p1:st (pos+1)=some xa:=pa 0 xa sa.hd
  have p2:st (pos+1+a.length+1)=some xb:=pb 0 xb sb.hd
  have p3:st (pos+1+a.length+1+b.length)=some y:=pb b.length y (by rw[←lb];simp)
  cases i with
  | zero=>
   simp only[List.getElem?_cons_zero,Option.some.injEq]at hi hz
   subst hi;subst hz
   exact h st p1 p2
  | succ i=>
   rw[List.getElem?_cons_succ]at hi hz
   rcases Nat.lt_trichotomy i a.length with h1|h1|h1
   ·rw[List.getElem?_append_left h1]at hi
    rw[List.getElem?_append_left (by rw[la];exact h1)]at hz
    have:=sa.ok st pa i ins z hi hz
    rwa [show pos+1+i=pos+(i+1) by omega]at this
   ·subst h1
    rw[List.getElem?_append_right (Nat.le_refl _),Nat.sub_self]at hi
    rw[List.getElem?_append_right (by omega),la,Nat.sub_self]at hz
    simp only[List.getElem?_cons_zero,Option.some.injEq]at hi hz
    subst hi;subst hz
    exact .jmp _ hy p3
   ·rw[List.getElem?_append_right (by omega),show i-a.length=(i-a.length-1)+1 by omega,List.getElem?_cons_succ]at hi
    rw[List.getElem?_append_right (by omega),la,show i-a.length=(i-a.length-1)+1 by omega,List.getElem?_cons_succ]at hz
    have:=sb.ok st pb (i-a.length-1) ins z hi hz
    rwa [show pos+1+a.length+1+(i-a.length-1)=pos+(i+1) by omega]at this
 bd:=fun z hz=>by
  rcases List.mem_cons.1 hz with rfl|hz
  ·exact hbx
  ·rcases List.mem_append.1 hz with hz|hz
   ·exact sa.bd z hz
   ·rcases List.mem_cons.1 hz with rfl|hz
    ·exact hby
    ·exact sb.bd z hz
def FunOk (X:Cx) (co:List Ins) (d:Nat):Prop:=∃ τ:List Sx,τ.length=co.length∧τ[0]?=some ⟨0,d,[]⟩∧(∀ i ins z,co[i]?=some ins→τ[i]?=some z→IOk' X d (fun j=>τ[j]?) i z ins)∧∀ z∈τ,Bd z
theorem fun_ok {X:Cx} {c:List Ins} {d:Nat} {ts:List Sx} (s:Seg X d c 0 ⟨0,d,[]⟩ ts ⟨1,d,[]⟩) (hd:d≤100000):FunOk X (c++[⟨10,0⟩]) d:=by
 refine⟨ts++[⟨1,d,[]⟩],by simp[s.len],s.hd,fun i ins z hi hz => ?_,fun z hz => ?_⟩
 ·rcases Nat.lt_or_ge i c.length with h1|h1
  ·rw[List.getElem?_append_left h1]at hi
   have hz':ts[i]?=some z:=by rw[List.getElem?_append_left (by rw[s.len];exact h1)]at hz;exact hz
   have:=s.ok (fun j=>(ts++[⟨1,d,[]⟩])[j]?) (fun j u hu=>by simp only[Nat.zero_add];exact hu) i ins z hi hz'
   rwa [Nat.zero_add]at this
  ·have hj:i=c.length:=by have:=aI hi;simp at this;omega
   subst hj
   rw[List.getElem?_append_right (Nat.le_refl _)]at hi
   rw[List.getElem?_append_right (by rw[s.len];exact Nat.le_refl _),s.len]at hz
   simp at hi hz
   subst hi;subst hz
   exact .ret _ rfl rfl rfl
 ·rcases List.mem_append.1 hz with hz|hz
  ·exact s.bd z hz
  ·rw[List.mem_singleton.1 hz];exact⟨by simp,hd,by simp⟩
end Go.Proofs.YtogjplcnmibnlaaGreatDoor.Ck
namespace Go.Proofs.YtogjplcnmibnlaaGreatDoor.Ck
open Go.Ev Go.Proofs.YtogjplcnmibnlaaGreatDoor.Env
open Go.Proofs.YtogjplcnmibnlaaGreatDoor.Pa (Gr cC bR)
section
variable {E:Go.Ev.Env} {K:Pg} {c fid:Nat} {sid:Nat→Nat} {ws:Go.Ev.Own} {h:H} {col:Nat→Nat} {q:Cq}
theorem body59:Tryz.f59.body=some (aC Tryz.f59 []):=rfl
theorem wrn {n:Int} {m:Nat} (h:n=↑m) (hm:m≤1000000):wr .i64 n=↑m:=by
 rw[wr_eq,h]
 exact eX (by omega) (by omega)
end
section
variable {E:Go.Ev.Env} {K:Pg} {c fid:Nat} {sid:Nat→Nat} {ws:Go.Ev.Own} {h:H} {col:Nat→Nat} {q:Cq}
theorem step_plain (e:KOk E) (k:CK K c fid sid ws h col q) {i:Nat} {x:Sx} {co:List Ins} {v:AV} (hco:K.C[q.f]?=some co) (hcl:co.length=(K.τ q.f).length) (hx:(K.τ q.f)[i]?=some x) (hvi:(q.V q.f)[i]?=some (some v)) (hbx:x.h≤100000∧x.d≤100000∧x.tr.length≤100000) (hbt:2*uv (q.V q.f)+q.ts.length<1000000) (hus:q.us.length<1000000) (hmu:q.f∈q.us) (hlen:(K.τ q.f).length≤100000) {op N:Int} {n m:Nat} (hop:op∈eG) (htk:takesF op=(n,m)) (hnm:n≤100∧m≤100) (hin:co[i]?=some ⟨op,N⟩) (hf:cM x.tr+n≤x.h) (hn:(K.τ q.f)[i+1]?=some ⟨x.h-n+m,x.d,x.tr⟩):StepR K c fid sid ws h col q (evL E 59 [.ptr (some (c,0)),.int .i64 ↑i] h):=by
 have hty:=e.ty
 have hpl:=e.pl
 have hg:=k.g
 have hff:=k.ff
 have hi:i<(K.τ q.f).length:=aI hx
 have hpa:(K.C.map cN)[q.f]?=some (cN co):=by simp[hco]
 have hcg:∀ hh:q.f<K.C.length,K.C[q.f]'hh=co:=fun hh=>by rw[List.getElem?_eq_getElem hh]at hco;exact Option.some.inj hco
 have hia:(co.map fR)[i]?=some (fR ⟨op,N⟩):=by simp[hin]
 have hrow:=k.rows q.f hff
 have hra:=fW K sid hff
 have hcb:=k.cc.2
 have hsb:=(k.cs q.f hff).2
 have nc0:c≠h.nx:=by omega
 have nc1:c≠h.nx+1:=by omega
 have nc2:c≠h.nx+1+1:=by omega
 have ns0:sid q.f≠h.nx:=by omega
 have ns1:sid q.f≠h.nx+1:=by omega
 have ns2:sid q.f≠h.nx+1+1:=by omega
 have n01:h.nx≠h.nx+1:=by omega
 have n02:h.nx≠h.nx+1+1:=by omega
 have n12:h.nx+1≠h.nx+1+1:=by omega
 have hlc:=eB (k.rl q.f hff)
 have hle:i*4+4≤(cellsOf (K.τ q.f) (q.V q.f)).length:=by rw[hlc];omega
 have hget:=eK hx hvi
 simp only[cellS]at hget
 have sv:=k.vals q.f i v x hff hvi hx
 have hfrm:=k.frm hmu
 have hfr:=k.fr
 have ncf:=k.ne_cf
 have nf0:fid≠h.nx:=by have:=k.cf.2;omega
 have nf1:fid≠h.nx+1:=by have:=k.cf.2;omega
 have nf2:fid≠h.nx+1+1:=by have:=k.cf.2;omega
 have hil:=cA K.S
 obtain⟨i1,hi1⟩:∃ j,j=i+1:=⟨_,rfl⟩
 have hwi:wr .i64 (↑i+1)=↑i1:=wrn (by rw[hi1];simp) (by omega)
 have kt:∀ h,evL E 95 [.int .i64 op] h=some (.tup [.int .i64 ↑n,.int .i64 ↑m],h):=fun h=>by
  have:=takes_run e op (by simp only[eG,dO,List.mem_cons,List.not_mem_nil,or_false]at hop ⊢;omega) h
  rw[htk]at this
  exact this
 have hb2:aE op 2=false:=by
  simp only[eG,List.mem_cons,List.not_mem_nil,or_false]at hop
  rw[bU]
  simp
  omega
 have hb3:aE op 3=false:=by
  simp only[eG,List.mem_cons,List.not_mem_nil,or_false]at hop
  rw[bU]
  simp
  omega
 have hb4:aE op 4=false:=by
  simp only[eG,List.mem_cons,List.not_mem_nil,or_false]at hop
  rw[bU]
  simp
  omega
 have hb5:aE op 5=false:=by
  simp only[eG,List.mem_cons,List.not_mem_nil,or_false]at hop
  rw[bU]
  simp
  omega
 have hb6:aE op 6=false:=by
  simp only[eG,List.mem_cons,List.not_mem_nil,or_false]at hop
  rw[bU]
  simp
  omega
 have hb7:aE op 7=false:=by
  simp only[eG,List.mem_cons,List.not_mem_nil,or_false]at hop
  rw[bU]
  simp
  omega
 have hb10:aE op 10=false:=by
  simp only[eG,List.mem_cons,List.not_mem_nil,or_false]at hop
  rw[bU]
  simp
  omega
 have hb11:aE op 11=false:=by
  simp only[eG,List.mem_cons,List.not_mem_nil,or_false]at hop
  rw[bU]
  simp
  omega
 have hb12:aE op 12=false:=by
  simp only[eG,List.mem_cons,List.not_mem_nil,or_false]at hop
  rw[bU]
  simp
  omega
 have hb13:aE op 13=false:=by
  simp only[eG,List.mem_cons,List.not_mem_nil,or_false]at hop
  rw[bU]
  simp
  omega
 have hb14:aE op 14=false:=by
  simp only[eG,List.mem_cons,List.not_mem_nil,or_false]at hop
  rw[bU]
  simp
  omega
 have hb15:aE op 15=false:=by
  simp only[eG,List.mem_cons,List.not_mem_nil,or_false]at hop
  rw[bU]
  simp
  omega
 obtain⟨a,ha⟩:∃ a,a+n=x.h:=⟨x.h-n,by omega⟩
 obtain⟨b,hb⟩:∃ b,b=a+m:=⟨_,rfl⟩
 have hw1:wr .i64 (↑x.h-↑n)=↑a:=wrn (by rw[←ha];simp) (by omega)
 have hw2:wr .i64 (↑a+↑m)=↑b:=wrn (by rw[hb];simp) (by omega)
 have hlt:ltI ↑a ↑(cM x.tr)=false:=dZ (by omega)
 obtain⟨hA,hhA⟩:∃ g:H,g=⟨((((((h.t.set h.nx (.cells [.bool false,.int .i64 0,.int .i64 0,.sl .full []])).set h.nx (.cells [.bool true,.int .i64 ↑x.h,.int .i64 ↑x.d,v])).set (h.nx+1) (.cells [.int .i64 0,.int .i64 0])).set (h.nx+1) (.cells [.int .i64 op,.int .i64 N])).set (h.nx+1+1) (.cells [.bool false,.int .i64 0,.int .i64 0,.sl .full []])).set (h.nx+1+1) (.cells [.bool false,.int .i64 ↑b,.int .i64 ↑x.d,v])),h.nx+1+1+1⟩:=⟨_,rfl⟩
 have GA:Gr h hA:=by
  rw[hhA]
  exact⟨by simp only;omega,fun j hj=>(T.aD _ _ (by omega)).trans ((T.aD _ _ (by omega)).trans ((T.aD _ _ (by omega)).trans ((T.aD _ _ (by omega)).trans ((T.aD _ _ (by omega)).trans (T.aD _ _ (by omega))))))⟩
 have nA:hA.nx=h.nx+1+1+1:=by rw[hhA]
 obtain⟨h2,kf,G2⟩:=floor_run e (sv.gr GA) true ↑x.h ↑x.d (by omega)
 have k2:=k.gr (GA.trans G2)
 have F2:Fx (Mut col) h col h2 col:=Fx.gr (GA.trans G2) _ _
 have n2:h.nx+1+1+1≤h2.nx:=by have:=G2.nx;omega
 have gx:h2.t.get h.nx=some (.cells [.bool true,.int .i64 ↑x.h,.int .i64 ↑x.d,v]):=(G2.keep _ (by omega)).trans (by rw[hhA];simp[T.aA,n02])
 have gi:h2.t.get (h.nx+1)=some (.cells [.int .i64 op,.int .i64 N]):=(G2.keep _ (by omega)).trans (by rw[hhA];simp[T.aA])
 have gy:h2.t.get (h.nx+1+1)=some (.cells [.bool false,.int .i64 ↑b,.int .i64 ↑x.d,v]):=(G2.keep _ (by omega)).trans (by rw[hhA];simp[T.aA])
 have sv2:=sv.gr (GA.trans G2)
 have c0:col h.nx=0:=k.fz _ (Nat.le_refl _)
 have c1:col (h.nx+1)=0:=k.fz _ (by omega)
 have c2:col (h.nx+1+1)=0:=k.fz _ (by omega)
 have vsh:=sv.shape
 have g2c:=k2.g
 have g2f:=k2.fr
 generalize hy:evL E 59 _ _=y
 rw[bE E (e.no 59 (by simp)) (by rw[e.fn];kernel_rfl) body59 _ _ rfl]at hy
 simp only[aC,sub,Tryz.f59]at hy
 obtain⟨h3,col3,q3,k3,K3,F3,a3,b3,c3,d3,e3,f3⟩:=to_run e k2 (i:=i1) (x:=⟨b,x.d,x.tr⟩) hco hcl (by rw[hi1,hn,hb,←ha,Nat.add_sub_cancel]) (b0:=false) (v:=v) sv2 (by first|omega|(simp;omega)) (by omega)
 subst hhA
 clear sv2 sv
 rcases vsh with rfl|⟨id2,m3,rfl⟩|⟨id2,m3,m4,rfl⟩<;>(simp (maxSteps:=2000000) [EVT,aT,bC,aX,bA,bT,aL,aN,aQ,bX,bF,bW,dE,cD,aV,AV.cells,aG,aZ,val,aH,bN,bP,cP,bG,aU,aO,aM,bI,recheck,H.new,H.put,cT,aY,bB,AV.one,setArgs,bQ,bS,bJ,aR,aP,bK,TYC,TYK,MTK,hty,hpl,isub,hg,hpa,hia,fR,cN,hrow,hra,hi,hget,hle,hwi,hw1,hw2,hlt,kt,kf,gx,gi,gy,g2c,nc0,nc2,n02,hb2,hb3,hb4,hb5,hb6,hb7,hb10,hb11,hb12,hb13,hb14,hb15,k3]at hy;exact⟨_,_,_,hy.symm,K3,F2.two F3,c3,by simp only[Wq,b3,d3],⟨[],by rw[b3];simp⟩,e3,f3⟩)
end
end Go.Proofs.YtogjplcnmibnlaaGreatDoor.Ck
