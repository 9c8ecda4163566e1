/- A node's code: the last case. -/
import Derived.Test.YtogjplcnmibnlaaGreatDoorCS
set_option autoImplicit false
set_option maxRecDepth 100000
set_option maxHeartbeats 8000000
set_option linter.unusedSimpArgs false
set_option linter.unusedVariables false
namespace Go.Proofs.YtogjplcnmibnlaaGreatDoor.Env
open Go.Ev Go.Ev.Nd
theorem loop42 {E:Env} (e:EOk E) {d:Nat} (nr:NR E d) {m f:Nat} {dep:Int} {b3 b4 b5:Nat} {t:Nd} {oe:Go.Ev.Own} {en:List Str} (ht:t.dep≤d+1) (ha:arOk t=true) (hl:t.kids.length≤9223372036854775807) (b4':en.length+2*t.dep≤1000000) :
  ∀ (l:List Nd) (i:Nat) {tm:Tm} {h:H} {x:Option (Ex × Tm × H)} {fv v:AV} {F:List AV} {w:Go.Ev.Own} {S:List Str} {c:List Ins},cdL E 42 153 (.loop b42_0) tm h=x→l=t.kids.drop i→i≤t.kids.length →
  tm.get 3=some (.ptr (some (b3,0)))→tm.get 4=some (.ptr (some (b4,0)))→tm.get 5=some (.ptr (some (b5,0)))→tm.get 15=some (.sl .no (avs t.kids))→tm.get 16=some (.int .i64 ↑t.kids.length)→tm.get 17=some (.int .i64 ↑i) →
  BX h b3 b4 b5 f t oe en (Tch m f fv w v)→MS h m dep fv F w S→FS h m f v c→S.length+dU l≤1000000→F.length+dU l≤1000000→c.length+8*dU l≤1000000 →
  ∃ tm' h' fv' v' N' w',x=some (.exit 1,tm',h')∧fU m f dep h fv v F w (genK (gen d) en l S F.length c.length).1 (genK (gen d) en l S F.length c.length).2.1 (c++(genK (gen d) en l S F.length c.length).2.2) h' fv' v' N' w' ∧
   tm'.get 3=some (.ptr (some (b3,0)))∧tm'.get 4=some (.ptr (some (b4,0)))
 | [],i,tm,h,x,fv,v,F,w,S,c,hx,hd,hi,h3,h4,h5,h15,h16,h17,b,M,X,s1,s2,s3=>by
  have hlen:=dnil hd hi
  have hty:=e.ty
  have hpl:=e.pl
  rw[hlen]at h16
  obtain⟨R,hR,hx⟩:=aS hx
  simp[b42_0,aK,Tryz.f42,loops,EVT,bC,aX,bA,bT,aL,aN,aG,aZ,val,bN,bP,aU,aP,bK,lp,hty,h16,h17,dZ]at hx
  refine⟨_,h,fv,v,[],w,by rw[←hx],?_,by simp[T.aA,h3],by simp[T.aA,h4]⟩
  simp only[genK,List.append_nil]
  exact made_grow M X (Nat.le_refl _) fun _ _=>rfl
 | k::l,i,tm,h,x,fv,v,F,w,S,c,hx,hdr,hi,h3,h4,h5,h15,h16,h17,b,M,X,s1,s2,s3=>by
  obtain⟨hlt,hct,hd'⟩:=gC hdr
  have hty:=e.ty
  have hpl:=e.pl
  have hat:=cX hct
  have hkm:=List.mem_of_getElem? hct
  have hlt':=eR hlt
  have hw:=cH (i:=i) (by omega)
  have hdk:=dep_mem hkm
  have hdt:=dep_eq t
  simp only[dU]at s1 s2 s3
  have q:=cW d k en S F.length c.length ((dQ ha).2 k hkm)
  obtain⟨h1,hh1⟩:∃ h1:H,h1=⟨(h.t.set h.nx (.cells [.str [],.str [],.str [],.int .i64 0,.int .i64 0,.sl .full []])).set h.nx (.cells [.str k.op,.str k.name,.str k.arg,.int .i64 k.n,.int .i64 k.at_,.sl .no (avs k.kids)]),h.nx+1⟩:=⟨_,rfl⟩
  have nx1:h1.nx=h.nx+1:=by rw[hh1]
  have gn:∀ j,j<h.nx→h1.t.get j=h.t.get j:=fun j hj=>by rw[hh1];exact(T.aD _ _ (by omega)).trans (T.aD _ _ (by omega))
  have A0:=made_grow (m:=m) (f:=f) (dep:=dep) M X (by omega) gn
  have b1:=b.step A0.st
  have g3:=b.g3
  have g5:=b.g5
  have g31:=b1.g3
  have g51:=b1.g5
  have l3:=b.lt.1
  have l5:=b.lt.2.2
  obtain⟨h2,fv2,v2,N2,w2,k2,A2⟩:=nr k en oe (by omega) ((dQ ha).2 k hkm) A0.ms0 A0.fs (by omega) (by omega) (by omega) (by omega)
  have b2:=b1.step A2.st
  have AA:=A0.after A2
  have hN:=A2.fn.1
  have lF:(F++N2).length=F.length+(gen d k en S F.length c.length).2.1.length:=by rw[List.length_append,hN]
  have z3:b3≠h.nx:=by omega
  have z5:b5≠h.nx:=by omega
  obtain⟨R,hR,hx⟩:=aS hx
  rw[hh1]at k2
  rw[bZ k]at hat k2
  simp[b42_0,aK,Tryz.f42,loops,EVT,bC,aX,bA,bT,aL,aN,aQ,bX,bF,aV,AV.cells,aG,aZ,val,aH,bN,bP,aU,H.new,H.put,aY,bB,AV.one,bJ,aR,aP,bK,TYC,lp,hty,h3,h5,h15,h16,h17,hlt',hw,hat,g3,g5,z3,z5,k2]at hx
  rw[hR]at hx
  obtain⟨tm',h',fv',v',N',w',e1,A3,t3,t4⟩:=loop42 e nr ht ha hl b4' l (i+1) (fv:=fv2) (v:=v2) (F:=F++N2) (w:=w2) (c:=c++(gen d k en S F.length c.length).2.2) hx hd' hlt (by simp[T.aA,h3]) (by simp[T.aA,h4]) (by simp[T.aA,h5]) (by simp[T.aA,h15]) (by simp[T.aA,h16]) (by simp[T.aA]) b2 A2.ms A2.fs (by have:=q.1;omega) (by rw[lF];have:=q.2.1;omega) (by have:=q.2.2;simp;omega)
  rw[lF,List.length_append]at A3
  have AB:=AA.trans A3
  rw[List.append_assoc]at AB
  exact⟨tm',h',fv',v',_,w',e1,AB,t3,t4⟩
section
variable {E:Env} {h:H} {m f:Nat} {dep:Int} {fv v:AV} {F:List AV} {w:Go.Ev.Own} {S:List Str} {l:List Ins} {t:Nd} {oe:Go.Ev.Own} {en:List Str} {d:Nat}
theorem node_rest (e:EOk E) (nr:NR E d) (M:MS h m dep fv F w S) (X:FS h m f v l) (ht:t.dep≤d+1) (ha:arOk t=true) (b1:S.length+t.size≤1000000) (b2:F.length+t.size≤1000000) (b3:l.length+8*t.size≤1000000) (b4:en.length+2*t.dep≤1000000) (hg:dL t.op t.name t.n en S=none)
  (c0:aB t.op oFun=false) (c1:aB t.op oLet=false) (c2:aB t.op oRec=false) (c3:aB t.op oIf=false) (c4:aB t.op dV=false) (c5:aB t.op oTry=false) (c6:aB t.op oSeq=false) :
  Gives E h m f dep fv v F w l t oe en (gen (d+1) t en S F.length l.length):=by
 have hs:=size_eq t
 obtain⟨h2,w2,v2,k,A,b⟩:=start42 (en:=en) e M X (by omega) (by omega) (by omega) oe t
 rw[hg]at A k
 replace A:fU m f dep h fv v F w S [] l h2 fv v2 [] w2:=A
 replace k:evL E 69 [.ptr (some (f,0)),t.av,.sl oe (strs en)] (box3 h f t oe en)=some (.bool false,h2):=k
 have hks:∀ k∈t.kids,∀ en S nf pos,fA S k.size (8*k.size) (gen d k en S nf pos):=fun k hk en S nf pos=>cW d k en S nf pos ((dQ ha).2 k hk)
 have q0:=fA.genK (en:=en) t.kids hks S F.length l.length
 have hkl:t.kids.length≤dU t.kids:=by
  generalize t.kids=L
  induction L with
  | nil=>simp[dU]
  | cons a L ih=>have:=size_eq a;simp only[List.length_cons,dU];omega
 have hty:=e.ty
 have hpl:=e.pl
 have z1:h.nx+1≠h.nx:=by omega
 have z2:h.nx≠h.nx+1:=by omega
 have z3:h.nx≠h.nx+1+1:=by omega
 have z4:h.nx+1≠h.nx+1+1:=by omega
 have b23:=b.g3
 have b24:=b.g4
 have b25:=b.g5
 have hl2:=avs_len t.kids
 have G:gen (d+1) t en S F.length l.length=cI (genK (gen d) en t.kids S F.length l.length) (gB ⟨opI t.op,0⟩) F.length l.length:=by simp only[gen,hg,c0,c1,c2,c3,c4,c5,c6,cond_false]
 unfold Gives
 rw[G]
 simp only[cI,gB,List.append_nil]
 obtain⟨y,hy⟩:∃ y,evL E 42 [.ptr (some (f,0)),t.av,.sl oe (strs en)] h=y:=⟨_,rfl⟩
 rw[hy]
 rw[bE E (e.no 42 (by simp)) (by rw[e.fn];kernel_rfl) body42 _ _ rfl]at hy
 simp only[aC,condAt,sub,Tryz.f42]at hy
 unfold box3 at k
 simp only[oFun,oLet,oRec,oIf,dV,oTry,oSeq]at c0 c1 c2 c3 c4 c5 c6
 rw[bZ t]at k hy
 simp[EVT,aT,bC,aX,bA,bT,aL,aN,aQ,bX,aV,AV.cells,aG,aZ,val,aH,bN,cP,aU,aO,bI,recheck,H.new,setArgs,bQ,bS,bJ,aR,TYC,hty,hpl,bytesOf,k,z3,b23,b24,c0,c1,c2,c3,c4,c5,c6,hl2]at hy
 generalize hx:cdL E 42 153 (.loop b42_0) _ _=x at hy
 obtain⟨tm,h3,fv3,v3,N3,w3,e1,A3,t3,t4⟩:=loop42 e nr ht ha (by omega) b4 t.kids 0 hx rfl (Nat.zero_le _) (by simp[T.aA]) (by simp[T.aA]) (by simp[T.aA]) (by simp[T.aA]) (by simp[T.aA]) (by simp[T.aA]) b A.ms0 A.fs (by omega) (by omega) (by omega)
 have bq:=b.step A3.st
 have bq3:=bq.g3
 have bq4:=bq.g4
 obtain⟨h4,k4,gm4,nx4,gr4⟩:=ops_run hty hpl (e.no 79 (by simp)) e.fn h3
 have A4:=made_grow (m:=m) (f:=f) (dep:=dep) A3.ms A3.fs (by omega) gr4
 have br:=bq.step A4.st
 have br3:=br.g3
 have br4:=br.g4
 obtain⟨h5,id5,k5,A5⟩:=fV e A4.ms0 A4.fs (by have:=q0.2.2;simp;omega) (opI t.op) 0
 have AA:=((A.after A3).then A4).then A5
 rw[List.append_assoc]at AA
 refine⟨h5,fv3,.rs id5 ((l++(genK (gen d) en t.kids S F.length l.length).2.2).length+1) true,N3,w3,?_,?_⟩
 rotate_left
 ·exact AA
 have hmg:=mapGet_ops t.op opsL
 subst e1
 unfold opI at k5
 cases hlk:lookO t.op opsL with
 | none=>
  rw[hlk]at hmg k5
  simp only[Option.map_none,Option.getD_none]at hmg k5
  simp[EVT,t3,t4,bq3,bq4,br3,br4,k4,gm4,keyOk,hmg,k5]at hy
  exact hy.symm
 | some o=>
  rw[hlk]at hmg k5
  simp only[Option.map_some,Option.getD_some]at hmg k5
  simp[EVT,t3,t4,bq3,bq4,br3,br4,k4,gm4,keyOk,hmg,k5]at hy
  exact hy.symm
theorem nr_step (e:EOk E) (nr:NR E d):NR E (d+1):=by
 intro t en oe h m f dep fv v F w S l ht ha M X s1 s2 s3 s4
 have hs:=size_eq t
 cases hg:dL t.op t.name t.n en S with
 | some p=>
  obtain⟨S',i⟩:=p
  have G:gen (d+1) t en S F.length l.length=(S',[],[i]):=by simp only[gen,hg]
  rw[G]
  exact node_leaf e M X (by omega) (by omega) (by omega) hg
 | none=>
  cases c0:aB t.op oFun with
  | true=>exact node_fun e nr M X ht ha s1 s2 s3 s4 hg c0
  | false=>
  cases c1:aB t.op oLet with
  | true=>exact node_let e nr M X ht ha s1 s2 s3 s4 hg c0 c1
  | false=>
  cases c2:aB t.op oRec with
  | true=>exact node_rec e nr M X ht ha s1 s2 s3 s4 hg c0 c1 c2
  | false=>
  cases c3:aB t.op oIf with
  | true=>exact node_if e nr M X ht ha s1 s2 s3 s4 hg c0 c1 c2 c3
  | false=>
  cases c4:aB t.op dV with
  | true=>exact node_match e nr M X ht ha s1 s2 s3 s4 hg c0 c1 c2 c3 c4
  | false=>
  cases c5:aB t.op oTry with
  | true=>exact node_try e nr M X ht ha s1 s2 s3 s4 hg c0 c1 c2 c3 c4 c5
  | false=>
  cases c6:aB t.op oSeq with
  | true=>exact node_seq e nr M X ht ha s1 s2 s3 s4 hg c0 c1 c2 c3 c4 c5 c6
  | false=>exact node_rest e nr M X ht ha s1 s2 s3 s4 hg c0 c1 c2 c3 c4 c5 c6
theorem nr_all (e:EOk E):∀ d,NR E d
 | 0=>fun t en oe h m f dep fv v F w S l ht=>by have:=dep_pos t;omega
 | d+1=>nr_step e (nr_all e d)
end
structure MR (h:H) (m:Nat) (fv:AV) (F:List AV) (w:Go.Ev.Own) (S:List Str) (CS:List (List Ins)):Prop where
 gm:h.t.get m=some (.cells [fv,.sl w (strs S)])
 mx:m<h.nx
 fr:FunsR h fv F
 sr:RowE 9 1 h w (strs S)
 ln:F.length=CS.length
 cs:∀ (i:Nat) x c,F[i]?=some x→CS[i]?=some c→fI h x c
 ds:∀ (i j:Nat) x y id,F[i]?=some x→F[j]?=some y→cB x=some id→cB y=some id→i=j
def TR (m:Nat) (fv:AV) (F:List AV) (w:Go.Ev.Own) (j:Nat):Prop:=j=m∨cB fv=some j∨w = .ch j∨∃ x∈F,cB x=some j
structure StR (h:H) (T T':Nat→Prop) (h':H):Prop where
 nx:h.nx≤h'.nx
 keep:∀ j,j<h.nx→¬ T j→h'.t.get j=h.t.get j
 new:∀ j,T' j→T j∨h.nx≤j
theorem StR.trans {h h1 h2:H} {T T1 T2:Nat→Prop} (a:StR h T T1 h1) (b:StR h1 T1 T2 h2):StR h T T2 h2 where
 nx:=Nat.le_trans a.nx b.nx
 keep:=fun j hj ht=>by
  rw[b.keep j (Nat.lt_of_lt_of_le hj a.nx) (fun h=>(a.new j h).elim ht (by omega)),a.keep j hj ht]
 new:=fun j h=>by
  rcases b.new j h with h|h
  ·exact a.new j h
  ·exact .inr (Nat.le_trans a.nx h)
theorem StR.grow {h h':H} {T:Nat→Prop} (hn:h.nx≤h'.nx) (hg:∀ j,j<h.nx→h'.t.get j=h.t.get j):StR h T T h':=⟨hn,fun j hj _=>hg j hj,fun _ h => .inl h⟩
section
variable {h:H} {m:Nat} {fv:AV} {F:List AV} {w:Go.Ev.Own} {S:List Str} {CS:List (List Ins)}
theorem MR.at (M:MR h m fv F w S CS) {q:Nat} {l:List Ins} (hq:CS[q]?=some l):∃ x,F[q]?=some x∧fI h x l:=by
 have:q<F.length:=by rw[M.ln];exact(List.getElem?_eq_some_iff.1 hq).1
 exact⟨F[q],List.getElem?_eq_getElem this,M.cs q _ l (List.getElem?_eq_getElem this) hq⟩
theorem MR.code (M:MR h m fv F w S CS) {x:AV} (hx:x∈F):∃ l,fI h x l:=by
 obtain⟨i,hi⟩:=List.mem_iff_getElem?.1 hx
 have:i<CS.length:=by rw[←M.ln];exact(List.getElem?_eq_some_iff.1 hi).1
 exact⟨_,M.cs i x _ hi (List.getElem?_eq_getElem this)⟩
theorem MR.nt (M:MR h m fv F w S CS) {j:Nat} (ht:TR m fv F w j):j<h.nx:=by
 rcases ht with h1|h1|h1|⟨x,hx,h1⟩
 ·rw[h1];exact M.mx
 ·rcases M.fr with ⟨e,_⟩|⟨i,e,_,hi⟩
  ·rw[e]at h1;simp[cB]at h1
  ·rw[e]at h1;simp[cB]at h1;omega
 ·rcases M.sr with ⟨e,_⟩|⟨i,e,_,hi⟩
  ·rw[e]at h1;cases h1
  ·rw[e]at h1;injection h1 with h1;omega
 ·obtain⟨l,hl⟩:=M.code hx
  exact hl.lt h1
theorem MR.mono (M:MR h m fv F w S CS) {h':H} (hn:h.nx≤h'.nx) (hg:∀ j,j<h.nx→TR m fv F w j→h'.t.get j=h.t.get j):MR h' m fv F w S CS where
 gm:=by rw[hg m M.mx (.inl rfl)];exact M.gm
 mx:=Nat.lt_of_lt_of_le M.mx hn
 fr:=by
  rcases M.fr with e|⟨id,e,hi,hid⟩
  ·exact .inl e
  ·exact .inr ⟨id,e,by rw[hg id hid (.inr (.inl (by rw[e];rfl)))];exact hi,Nat.lt_of_lt_of_le hid hn⟩
 sr:=by
  rcases M.sr with e|⟨id,e,hi,hid⟩
  ·exact .inl e
  ·exact .inr ⟨id,e,by rw[hg id hid (.inr (.inr (.inl e)))];exact hi,Nat.lt_of_lt_of_le hid hn⟩
 ln:=M.ln
 cs:=fun i x c hx hc=>(M.cs i x c hx hc).mono hn fun j hj hl=>hg j hl (.inr (.inr (.inr ⟨x,List.mem_of_getElem? hx,hj⟩)))
 ds:=M.ds
theorem MR.grow (M:MR h m fv F w S CS) {h':H} (hn:h.nx≤h'.nx) (hg:∀ j,j<h.nx→h'.t.get j=h.t.get j):MR h' m fv F w S CS:=M.mono hn fun j hj _=>hg j hj
theorem fill_set (y:AV):∀ (F:List AV) (q:Nat),q<F.length→aY F q [y]=F.set q y
 | [],q,h=>by simp at h
 | a::F,0,h=>by simp[aY]
 | a::F,q+1,h=>by simp[aY,fill_set y F q (by simpa using h)]
end
section
variable {h:H} {m:Nat} {fv:AV} {F:List AV} {w:Go.Ev.Own} {S:List Str} {CS:List (List Ins)}
theorem MR.put (M:MR h m fv F w S CS) {q:Nat} {x v':AV} {l l':List Ins} {h':H} (hx:F[q]?=some x) (hl:CS[q]?=some l) (hn:h.nx≤h'.nx) (hfv:FunsR h' fv (F.set q v'))
  (keep:∀ j,j<h.nx→cB fv≠some j→cB x≠some j→h'.t.get j=h.t.get j) (hc:fI h' v' l') (hid:∀ id,cB v'=some id→cB x=some id∨h.nx≤id) :
  MR h' m fv (F.set q v') w S (CS.set q l')∧StR h (TR m fv F w) (TR m fv (F.set q v') w) h':=by
 have hxc:=M.cs q x l hx hl
 have hql:q<F.length:=(List.getElem?_eq_some_iff.1 hx).1
 have hqc:q<CS.length:=by rw[←M.ln];exact hql
 have hxm:=List.mem_of_getElem? hx
 have oth:∀ j y,F[j]?=some y→q≠j→∀ id,cB y=some id→cB v'≠some id:=fun j y hy hj id hyi hvi=>by
  rcases hid id hvi with e|e
  ·exact hj (M.ds q j x y id hx hy e hyi)
  ·obtain⟨c,hcy⟩:=M.code (List.mem_of_getElem? hy)
   have:=hcy.lt hyi;omega
 refine⟨⟨?_,Nat.lt_of_lt_of_le M.mx hn,hfv,?_,by simp[M.ln],fun i y c hy hcc => ?_,fun i j y z id hy hz hyi hzi => ?_⟩,⟨hn,fun j hj ht => ?_,fun j ht => ?_⟩⟩
 ·rw[keep m M.mx (M.fr.nc M.gm) (hxc.nc M.gm)];exact M.gm
 ·rcases M.sr with e|⟨i,e,hi,hlt⟩
  ·exact .inl e
  ·exact .inr ⟨i,e,by rw[keep i hlt (str_fun M.sr M.fr e) (str_code M.sr hxc e)];exact hi,Nat.lt_of_lt_of_le hlt hn⟩
 ·by_cases hi:q=i
  ·subst hi
   rw[List.getElem?_set_self hql]at hy
   rw[List.getElem?_set_self hqc]at hcc
   injection hy with hy
   injection hcc with hcc
   rw[←hy,←hcc];exact hc
  ·rw[List.getElem?_set_ne hi]at hy hcc
   have hyc:=M.cs i y c hy hcc
   exact hyc.mono hn fun j hj hlt=>keep j hlt (fun e=>fun_code M.fr hyc e hj) fun e=>hi (M.ds q i x y j hx hy e hj)
 ·by_cases hi:q=i
  ·by_cases hj:q=j
   ·rw[←hi,←hj]
   ·subst hi
    rw[List.getElem?_set_self hql]at hy
    injection hy with hy
    rw[List.getElem?_set_ne hj]at hz
    exact absurd (by rw[hy];exact hyi) (oth j z hz hj id hzi)
  ·by_cases hj:q=j
   ·subst hj
    rw[List.getElem?_set_self hql]at hz
    injection hz with hz
    rw[List.getElem?_set_ne hi]at hy
    exact absurd (by rw[hz];exact hzi) (oth i y hy hi id hyi)
   ·rw[List.getElem?_set_ne hi]at hy
    rw[List.getElem?_set_ne hj]at hz
    exact M.ds i j y z id hy hz hyi hzi
 ·exact keep j hj (fun e=>ht (.inr (.inl e))) fun e=>ht (.inr (.inr (.inr ⟨x,hxm,e⟩)))
 ·rcases ht with h1|h1|h1|⟨y,hy,h1⟩
  ·exact .inl (.inl h1)
  ·exact .inl (.inr (.inl h1))
  ·exact .inl (.inr (.inr (.inl h1)))
  ·rcases List.mem_or_eq_of_mem_set hy with hy|rfl
   ·exact .inl (.inr (.inr (.inr ⟨y,hy,h1⟩)))
   ·exact(hid j h1).imp (fun e => .inr (.inr (.inr ⟨x,hxm,e⟩))) fun e=>e
theorem body46:Tryz.f46.body=some (aC Tryz.f46 []):=rfl
theorem add_run {E:Env} (hty:E.ty=env.ty) (hpl:E.plan=env.plan) (hp:E.prim 46=none) (hfn:E.fns=env.fns) (M:MR h m fv F w S CS) {q:Nat} {l:List Ins} (hq:CS[q]?=some l) (hl:l.length≤1000000) (op n:Int) :
  ∃ h' v',evL E 46 [.ptr (some (m,0)),.int .i64 ↑q,.int .i64 op,.int .i64 n] h=some (.int .i64 ↑l.length,h')∧MR h' m fv (F.set q v') w S (CS.set q (l++[⟨op,n⟩]))∧StR h (TR m fv F w) (TR m fv (F.set q v') w) h':=by
 obtain⟨x,hx,hxc⟩:=M.at hq
 have hql:q<F.length:=(List.getElem?_eq_some_iff.1 hx).1
 have gn:∀ j,j<h.nx→(⟨h.t.set h.nx (.row 1 62 2 (insC [⟨op,n⟩])),h.nx+1⟩:H).t.get j=h.t.get j:=fun j hj=>T.aD _ _ (by omega)
 obtain⟨v',h2,k1,k2,k3,id,rfl,k5⟩:=appR_code (h:=⟨h.t.set h.nx (.row 1 62 2 (insC [⟨op,n⟩])),h.nx+1⟩) (hxc.mono (Nat.le_succ _) fun j _ hj=>gn j hj) hl (i1:=h.nx) (x:=⟨op,n⟩) (T.bO _ _ _)
 obtain⟨fid,rfl,hfg,hfx⟩:∃ fid,fv = .rs fid F.length true∧h.t.get fid=some (.row F.length 54 1 F)∧fid<h.nx:=by
  rcases M.fr with ⟨_,e⟩|h
  ·rw[e]at hql;simp at hql
  ·exact h
 have keep2:∀ j,j<h.nx→cB x≠some j→h2.t.get j=h.t.get j:=fun j hj hr=>by
  rw[k3.2 j (Nat.lt_succ_of_lt hj) (by cases hr2:cB x with|none=>simp|some i=>simp;rintro rfl;exact hr hr2)]
  exact gn j hj
 have n2:h.nx+1≤h2.nx:=k3.1
 have hfg2:h2.t.get fid=some (.row F.length 54 1 F):=by rw[keep2 fid hfx (fun_code M.fr hxc rfl)];exact hfg
 have hm2:h2.t.get m=some (.cells [.rs fid F.length true,.sl w (strs S)]):=by rw[keep2 m M.mx (hxc.nc M.gm)];exact M.gm
 have hfm:m≠fid:=by rintro rfl;exact M.fr.nc M.gm rfl
 have hidf:id≠fid:=by
  rintro rfl
  rcases k5 with e|e
  ·exact fun_code M.fr hxc rfl e
  ·simp only at e;omega
 have hfill:=fill_set (.rs id (l.length+1) true) F q hql
 have hset:(F.set q (.rs id (l.length+1) true))[q]?=some (.rs id (l.length+1) true):=List.getElem?_set_self hql
 have hw:wr .i64 (Int.sub ((↑l.length:Int)+1) 1)=↑l.length:=by rw[show Int.sub ((↑l.length:Int)+1) 1=↑l.length from Int.add_sub_cancel ..];rw[wr_eq];exact eX (by omega) (by omega)
 have P:=M.put (v' := .rs id (l.length+1) true) (l':=l++[⟨op,n⟩]) (h':=⟨h2.t.set fid (.row F.length 54 1 (F.set q (.rs id (l.length+1) true))),h2.nx⟩) hx hq (by simp only;omega)
  (.inr ⟨fid,by simp,by simp[T.bO],by simp only;omega⟩)
  (fun j hj h1 h3=>by rw[show(⟨h2.t.set fid (.row F.length 54 1 (F.set q (.rs id (l.length+1) true))),h2.nx⟩:H).t.get j=h2.t.get j from T.aD _ _ (by rintro rfl;exact h1 rfl)];exact keep2 j hj h3)
  (k2.mono (h':=⟨h2.t.set fid (.row F.length 54 1 (F.set q (.rs id (l.length+1) true))),h2.nx⟩) (Nat.le_refl _) fun j hj _=>T.aD _ _ (by simp only[cB,Option.some.injEq]at hj;omega))
  (fun i hi=>by simp only[cB,Option.some.injEq]at hi;subst hi;exact k5.imp (fun e=>e) fun e=>by simp only at e;omega)
 refine⟨_,_,?_,P.1,P.2⟩
 rw[bE E hp (by rw[hfn];kernel_rfl) body46 _ _ rfl]
 simp only[aC,sub,Tryz.f46]
 simp only[insC]at k1
 have hgm:=M.gm
 have nm:m≠h.nx:=by have:=M.mx;omega
 have nf:fid≠h.nx:=by omega
 have hblt:Nat.blt q F.length=true:=cR.2 hql
 have hle:q+1≤F.length:=hql
 have hxe:F[q]=x:=(List.getElem?_eq_some_iff.1 hx).2
 simp[EVT,aT,bC,aX,bA,bT,aL,aN,aQ,bX,bF,aV,AV.cells,aG,aZ,val,aH,bN,bP,aU,aO,aM,bY,bI,recheck,H.new,H.put,cT,aY,bB,AV.one,setArgs,bQ,bS,bJ,aR,aP,bK,TYC,hty,hpl,hgm,hxe,hfg,hql,hle,k1,hfg2,hm2,hfm,hfill,hw]
end
section
variable {h:H} {m:Nat} {fv:AV} {F:List AV} {w:Go.Ev.Own} {S:List Str} {CS:List (List Ins)}
theorem body117:Tryz.f117.body=some (aC Tryz.f117 []):=rfl
theorem here14_run {E:Env} (hty:E.ty=env.ty) (hpl:E.plan=env.plan) (hp:E.prim 117=none) (hfn:E.fns=env.fns) (M:MR h m fv F w S CS) {q:Nat} {l:List Ins} (hq:CS[q]?=some l) (hl:l.length≤1000000) {p:Nat} (hpl':p<l.length) :
  ∃ h',evL E 117 [.ptr (some (m,0)),.int .i64 ↑q,.int .i64 ↑p] h=some (.tup [],h')∧MR h' m fv F w S (CS.set q (hereF l p))∧StR h (TR m fv F w) (TR m fv F w) h':=by
 obtain⟨x,hx,hxc⟩:=M.at hq
 have hql:q<F.length:=(List.getElem?_eq_some_iff.1 hx).1
 obtain⟨id,rfl,hg,hid⟩:∃ id,x = .rs id l.length true∧h.t.get id=some (.row l.length 62 2 (insC l))∧id<h.nx:=by
  rcases hxc with ⟨_,e⟩|h
  ·rw[e]at hpl';simp at hpl'
  ·exact h
 obtain⟨fid,rfl,hfg,hfx⟩:∃ fid,fv = .rs fid F.length true∧h.t.get fid=some (.row F.length 54 1 F)∧fid<h.nx:=by
  rcases M.fr with ⟨_,e⟩|h
  ·rw[e]at hql;simp at hql
  ·exact h
 have hself:F.set q (.rs id l.length true)=F:=by
  obtain⟨_,e⟩:=List.getElem?_eq_some_iff.1 hx
  rw[←e];exact List.set_getElem_self _
 have idf:fid≠id:=by rintro rfl;exact fun_code M.fr hxc rfl rfl
 have P:=M.put (v' := .rs id l.length true) (l':=hereF l p) (h':=⟨h.t.set id (.row l.length 62 2 (insC (hereF l p))),h.nx⟩) hx hq (Nat.le_refl _)
  (.inr ⟨fid,by simp,by rw[hself];simp only;rw[T.aD _ _ idf];simpa using hfg,hfx⟩)
  (fun j hj h1 h2=>T.aD _ _ (by rintro rfl;exact h2 rfl))
  (.inr ⟨id,by rw[hereF_len],by rw[hereF_len];exact T.bO _ _ _,hid⟩)
  (fun i hi => .inl hi)
 rw[hself]at P
 refine⟨_,?_,P.1,P.2⟩
 rw[bE E hp (by rw[hfn];kernel_rfl) body117 _ _ rfl]
 simp only[aC,sub,Tryz.f117]
 have hfl:=insC_fill l p ↑l.length hpl'
 have hlen:=insC_len l
 have hle:p*2+1+1≤l.length*2:=by omega
 have hbl:Nat.blt p l.length=true:=cR.2 hpl'
 have hgm:=M.gm
 have hbq:Nat.blt q F.length=true:=cR.2 hql
 have hxe:F[q] = .rs id l.length true:=(List.getElem?_eq_some_iff.1 hx).2
 simp[EVT,aT,aX,bA,bT,aL,aN,aQ,bF,aV,AV.cells,aG,aZ,val,aH,bI,recheck,H.put,bB,AV.one,setArgs,bQ,bS,TYC,hty,hpl,hgm,hfg,hxe,hql,hg,hpl',hlen,hle,hfl,hereF]
theorem body84:Tryz.f84.body=some (aC Tryz.f84 []):=rfl
end
noncomputable def b116_0:Code:=aK Tryz.f116 0
theorem body116:Tryz.f116.body=some (.seq (aC Tryz.f116 [0]) (.seq (.seq (aC Tryz.f116 [1,0,0]) (.block 0 (.loop b116_0))) (aC Tryz.f116 [1,1]))):=rfl
theorem nb_comm (a b:List Nat):aB a b=aB b a:=by
 rw[fX,fX]
 exact Bool.eq_iff_iff.2 (by simp only[beq_iff_eq];exact eq_comm)
theorem loop116 {E:Env} (hty:E.ty=env.ty) (hpl:E.plan=env.plan) {o:Go.Ev.Own} {L:List Str} {v:List Nat} {fv:AV} {m:Nat} (hl:L.length≤9223342036854775807):∀ (l:List Str) (i:Nat) {tm:Tm} {h:H} {x:Option (Ex × Tm × H)},cdL E 116 41 (.loop b116_0) tm h=x→l=L.drop i→i≤L.length →
  tm.get 0=some (.ptr (some (m,0)))→tm.get 1=some (.str v)→tm.get 5=some (.int .i64 ↑i)→h.t.get m=some (.cells [fv,.sl o (strs L)])→∃ tm',x=some (bif dA l v then .ret else .exit 0,tm',h)∧(dA l v=true→tm'.get 4=some (.int .i64 (idxS v l i)))∧tm'.get 0=some (.ptr (some (m,0)))∧tm'.get 1=some (.str v)
 | [],i,tm,h,x,hx,hd,hi,h0,h1,h5,hm=>by
  have hlen:=dnil hd hi
  have hil:=cA L
  rw[hlen]at hil
  obtain⟨R,hR,hx⟩:=aS hx
  simp[b116_0,aK,Tryz.f116,loops,EVT,bC,aX,bA,bT,aL,aN,aQ,aV,aG,aZ,val,aH,bN,bP,aU,aP,bK,TYC,lp,hty,h0,h5,hm,hil,dZ]at hx
  exact⟨_,by rw[←hx];rfl,by simp[dA],by simp[T.aA,h0],by simp[T.aA,h1]⟩
 | c::l,i,tm,h,x,hx,hd,hi,h0,h1,h5,hm=>by
  obtain⟨hlt,hc,hd'⟩:=gC hd
  have hat:=strs_get hc
  have hil:=cA L
  obtain⟨R,hR,hx⟩:=aS hx
  have hlt':=eR hlt
  have hw:=cH (i:=i) (by omega)
  cases hb:aB c.s v with
  | true=>
   have hb':=(nb_comm v c.s).trans hb
   simp[b116_0,aK,Tryz.f116,loops,EVT,bC,aX,bA,bT,aL,aN,aQ,aV,AV.cells,aG,aZ,val,aH,bN,bP,cP,aU,aP,bK,TYC,lp,hty,h0,h1,h5,hm,hil,hlt',hat,hb]at hx
   exact⟨_,by rw[←hx];simp[dA,hb'];rfl,by simp[T.aA,idxS,hb'],by simp[T.aA,h0],by simp[T.aA,h1]⟩
  | false=>
   have hb':=(nb_comm v c.s).trans hb
   simp[b116_0,aK,Tryz.f116,loops,EVT,bC,aX,bA,bT,aL,aN,aQ,aV,AV.cells,aG,aZ,val,aH,bN,bP,cP,aU,bJ,aR,aP,bK,TYC,lp,hty,h0,h1,h5,hm,hil,hlt',hat,hb,hw]at hx
   rw[hR]at hx
   have e:dA (c::l) v=dA l v:=by simp[dA,hb']
   have e2:idxS v (c::l) i=idxS v l (i+1):=by simp[idxS,hb']
   rw[e,e2]
   exact loop116 hty hpl (o:=o) (v:=v) hl l (i+1) hx hd' hlt (by simp[T.aA,h0]) (by simp[T.aA,h1]) (by simp[T.aA]) hm
theorem str14_run {E:Env} (hty:E.ty=env.ty) (hpl:E.plan=env.plan) (hp:E.prim 116=none) (hfn:E.fns=env.fns) {h:H} {m:Nat} {fv:AV} {F:List AV} {w:Go.Ev.Own} {S:List Str} {CS:List (List Ins)} (M:MR h m fv F w S CS) (hl:S.length≤1000000) (s:List Nat) :
  ∃ h' w',evL E 116 [.ptr (some (m,0)),.str s] h=some (.int .i64 (strI S s),h')∧MR h' m fv F w' (strF S s) CS∧StR h (TR m fv F w) (TR m fv F w') h':=by
 have hil:=cA S
 have hm:=M.gm
 obtain⟨y,hy⟩:∃ y,evL E 116 [.ptr (some (m,0)),.str s] h=y:=⟨_,rfl⟩
 rw[hy]
 rw[bE E hp (by rw[hfn];kernel_rfl) body116 _ _ rfl]at hy
 simp only[aC,sub,Tryz.f116]at hy
 simp[EVT,aT,bC,aX,bA,bT,aL,aN,aQ,bF,aV,AV.cells,aG,aZ,val,aH,bN,bP,cP,aU,aO,H.put,setArgs,bQ,bS,bJ,aR,aP,bK,TYC,hty]at hy
 generalize hx:cdL E 116 41 (.loop b116_0) _ _=x at hy
 obtain⟨tm',e1,g4,g0,g1⟩:=loop116 hty hpl (o:=w) (v:=s) (m:=m) (fv:=fv) (by omega) S 0 hx rfl (Nat.zero_le _) (by simp[T.aA]) (by simp[T.aA]) (by simp[T.aA]) hm
 subst e1
 cases hs:dA S s with
 | true=>
  have g4':=g4 hs
  simp[hs,g4']at hy
  refine⟨h,w,by rw[←hy];simp[strI,hs],by simpa[strF,hs]using M,.grow (Nat.le_refl _) fun _ _=>rfl⟩
 | false=>
  obtain⟨w',h2,k1,k2,k3,k4⟩:=app_any (e:=9) (sz:=1) (byt:=16) (ys:=strs [⟨s⟩]) (by omega) (by omega) (strs_sz S) rfl rfl (by rw[hil];simp[strs];omega) M.sr
  have hm2:h2.t.get m=some (.cells [fv,.sl w (strs S)]):=by rw[k4 m M.mx (M.sr.ne hm)];exact hm
  have hw':=own_app M.sr k1
  have hfv:=M.fr.one
  have hw2:wr .i64 (Int.sub ((↑S.length:Int)+1) 1)=↑S.length:=by rw[show Int.sub ((↑S.length:Int)+1) 1=↑S.length from Int.add_sub_cancel ..];rw[wr_eq];exact eX (by omega) (by omega)
  have keep:∀ j,j<h.nx→j≠m→w ≠ .ch j→(⟨h2.t.set m (.cells [fv,.sl w' (strs (S++[⟨s⟩]))]),h2.nx⟩:H).t.get j=h.t.get j:=fun j hj hne hwj=>by rw[show(⟨h2.t.set m (.cells [fv,.sl w' (strs (S++[⟨s⟩]))]),h2.nx⟩:H).t.get j=h2.t.get j from T.aD _ _ hne];exact k4 j hj hwj
  refine⟨⟨h2.t.set m (.cells [fv,.sl w' (strs (S++[⟨s⟩]))]),h2.nx⟩,w',?_,⟨by simp only[strF,hs,cond_false];exact T.bO _ _ _,Nat.lt_of_lt_of_le M.mx k3,?_,?_,M.ln,fun i x c hx hc => ?_,M.ds⟩,⟨k3,fun j hj ht=>keep j hj (fun e=>ht (.inl e)) fun e=>ht (.inr (.inr (.inl e))),fun j ht => ?_⟩⟩
  ·rw[show strs [⟨s⟩]=[AV.str s] from rfl]at k1
   rw[strs_app,show strs [⟨s⟩]=[AV.str s] from rfl]
   simp[EVT,AV.cells,aM,aY,bB,AV.one,TYC,hs,g0,g1,hm,hil,k1,hm2,hw2]at hy
   rw[←hy]
   simp[strI,hs]
  ·rcases M.fr with e|⟨i,e,hi,hlt⟩
   ·exact .inl e
   ·exact .inr ⟨i,e,by rw[keep i hlt (by rintro rfl;exact M.fr.nc M.gm (by rw[e];rfl)) fun e2=>str_fun M.sr M.fr e2 (by rw[e];rfl)];exact hi,Nat.lt_of_lt_of_le hlt k3⟩
  ·simp only[strF,hs,cond_false]
   rw[strs_app]
   rcases k2 with e|⟨id,e,hg,hi⟩
   ·exact .inl e
   ·refine .inr ⟨id,e,?_,hi⟩
    have:id≠m:=by rintro rfl;rw[hm2]at hg;cases hg
    rw[show(⟨h2.t.set m (.cells [fv,.sl w' (strs S++strs [⟨s⟩])]),h2.nx⟩:H).t.get id=h2.t.get id from T.aD _ _ this]
    exact hg
  ·have hxc:=M.cs i x c hx hc
   exact hxc.mono k3 fun j hj hlt=>keep j hlt (by rintro rfl;exact hxc.nc M.gm hj) fun e=>str_code M.sr hxc e hj
  ·rcases ht with h1|h1|h1|h1
   ·exact .inl (.inl h1)
   ·exact .inl (.inr (.inl h1))
   ·exact(hw' j h1).imp (fun e => .inr (.inr (.inl e))) fun e=>e
   ·exact .inl (.inr (.inr (.inr h1)))
end Go.Proofs.YtogjplcnmibnlaaGreatDoor.Env
