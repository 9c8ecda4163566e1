/- A node's code: the cases but the last. -/
import Derived.Test.YtogjplcnmibnlaaGreatDoorCR
set_option autoImplicit false
set_option maxRecDepth 100000
set_option maxHeartbeats 8000000
set_option linter.unusedSimpArgs false
set_option linter.unusedVariables false
namespace Go.Proofs.YtogjplcnmibnlaaGreatDoor.Env
open Go.Ev Go.Ev.Nd
attribute [local simp] bC aX bA bT aL aN aQ bX bF bW dE cD aV AV.cells aG aZ val aH bN bP cP bG eI aU aO aM bY bI recheck H.new H.put cT aY bB AV.one setArgs bQ bS bJ aR aP bK
def Gives (E:Env) (h:H) (m f:Nat) (dep:Int) (fv v:AV) (F:List AV) (w:Go.Ev.Own) (l:List Ins) (t:Nd) (oe:Go.Ev.Own) (en:List Str) (g:G3):Prop:=
 ∃ h' fv' v' N' w',evL E 42 [.ptr (some (f,0)),t.av,.sl oe (strs en)] h=some (.tup [],h')∧fU m f dep h fv v F w g.1 g.2.1 (l++g.2.2) h' fv' v' N' w'
section
variable {E:Env} {h:H} {m f:Nat} {dep:Int} {fv v:AV} {F:List AV} {w:Go.Ev.Own} {S:List Str} {l:List Ins} {t:Nd} {oe:Go.Ev.Own} {en:List Str} {d:Nat}
theorem made_fun (e:EOk E) (nr:NR E d) (k:Nd) (en:List Str) (oe:Go.Ev.Own) (hd:k.dep≤d) (ha:arOk k=true) (M:MS h m dep fv F w S) (X:FS h m f v l)
  (b1:S.length+k.size≤1000000) (b2:F.length+1+k.size≤1000000) (b3:8*k.size+8≤1000000) (b4:en.length+2*k.dep≤1000000) :
  ∃ h' fv' N' w',evL E 22 [.ptr (some (m,0)),k.av,.sl oe (strs en)] h=some (.int .i64 ↑F.length,h') ∧
   fU m f dep h fv v F w (cZ (gen d) k en S F.length).1 (cZ (gen d) k en S F.length).2 l h' fv' v N' w':=by
 obtain⟨h',fv',N',w',k1,M',R,st⟩:=fun_run e nr k en oe hd ha M b1 b2 b3 b4
 have up:∀ {fv:AV} {w:Go.Ev.Own} {j:Nat},Tm0 m fv w j→Tch m f fv w v j:=by
  intro fv w j ht
  rcases ht with h1|h1|h1|h1|h1
  ·exact .inl h1
  ·exact .inl h1
  ·exact .inr (.inr (.inl h1))
  ·exact .inr (.inr (.inr (.inl h1)))
  ·simp[cB]at h1
 have down:∀ {fv:AV} {w:Go.Ev.Own} {j:Nat},Tch m f fv w v j→Tm0 m fv w j∨j=f∨cB v=some j:=by
  intro fv w j ht
  rcases ht with h1|h1|h1|h1|h1
  ·exact .inl (.inl h1)
  ·exact .inr (.inl h1)
  ·exact .inl (.inr (.inr (.inl h1)))
  ·exact .inl (.inr (.inr (.inr (.inl h1))))
  ·exact .inr (.inr h1)
 refine⟨h',fv',N',w',k1,M',X.mono st.nx fun j hj ht=>st.keep j hj ?_,⟨R.1,fun i x c hx hc=>⟨(R.2 i x c hx hc).1,fun id hid => ?_⟩⟩,⟨st.nx,fun j hj ht=>st.keep j hj fun h'=>ht (up h'),fun j ht => ?_,fun j hj => .inl hj⟩⟩
 ·rintro(h1|h1|h1|h1|h1)
  ·subst h1
   rcases ht with ht|ht
   ·exact M.ne X ht
   ·exact X.cr.nc M.gm ht
  ·subst h1
   rcases ht with ht|ht
   ·exact M.ne X ht
   ·exact X.cr.nc M.gm ht
  ·rcases ht with ht|ht
   ·subst ht;exact M.fr.nc X.gf h1
   ·exact fun_code M.fr X.cr h1 ht
  ·rcases ht with ht|ht
   ·subst ht;exact M.sr.ne X.gf h1
   ·exact str_code M.sr X.cr h1 ht
  ·simp[cB]at h1
 ·obtain⟨h1,h2⟩:=(R.2 i x c hx hc).2 id hid
  refine⟨h1,fun ht => ?_⟩
  rcases down ht with h3|h3|h3
  ·exact h2 h3
  ·have:=X.fx;omega
  ·have:=X.cr.lt h3;omega
 ·rcases down ht with h3|h3|h3
  ·rcases st.new j h3 with h4|h4
   ·exact .inl (up h4)
   ·exact .inr h4
  ·exact .inl (.inr (.inl h3))
  ·exact .inl (.inr (.inr (.inr (.inr h3))))
theorem node_fun (e:EOk E) (nr:NR E d) (M:MS h m dep fv F w S) (X:FS h m f v l) (ht:t.dep≤d+1) (ha:arOk t=true) (b1:S.length+t.size≤1000000) (b2:F.length+t.size≤1000000) (b3:l.length+8*t.size≤1000000) (b4:en.length+2*t.dep≤1000000) (hg:dL t.op t.name t.n en S=none) (c0:aB t.op oFun=true) :
  Gives E h m f dep fv v F w l t oe en (gen (d+1) t en S F.length l.length):=by
 have hs1:1≤t.size:=by rw[size_eq];omega
 obtain⟨h2,w2,v2,k,A,b⟩:=start42 (en:=en) e M X (by omega) (by omega) (by omega) oe t
 rw[hg]at A k
 replace A:fU m f dep h fv v F w S [] l h2 fv v2 [] w2:=A
 replace k:evL E 69 [.ptr (some (f,0)),t.av,.sl oe (strs en)] (box3 h f t oe en)=some (.bool false,h2):=k
 have hn:=(dQ ha).1 1 (by simp[arity,c0])
 have hs:=kids1 hn
 have i0:0<t.kids.length:=by omega
 have d0:=dK i0
 have s0:1≤(kid t 0).size:=by rw[size_eq];omega
 have a0:=cX (dG i0)
 have l0:=fun en S nf pos=>cW d (kid t 0) en S nf pos (cQ ha i0)
 have hty:=e.ty
 have hpl:=e.pl
 have z1:h.nx+1≠h.nx:=by omega
 have z2:h.nx≠h.nx+1:=by omega
 have z3:h.nx≠h.nx+1+1:=by omega
 have z4:h.nx+1≠h.nx+1+1:=by omega
 have b23:=b.g3
 have b24:=b.g4
 have b25:=b.g5
 obtain⟨h3,ow,k3,n3,g3⟩:=under_run (E:=E) hty hpl (e.no 70 (by simp)) (e.no 114 (by simp)) e.gr e.fn (oa := .full) (ob:=oe) (a:=[(⟨t.name⟩:Str)]) (b:=en) (by simp;omega) h2
 have A2:=made_grow (m:=m) (f:=f) (dep:=dep) A.ms0 A.fs n3 g3
 obtain⟨h4,fv4,N4,w4,k4,A3⟩:=made_fun e nr (kid t 0) ((⟨t.name⟩:Str)::en) ow (by omega) (cQ ha i0) A2.ms0 A2.fs (by omega) (by omega) (by omega) (by simp;omega)
 obtain⟨hE,id5,k5,A4⟩:=fV e A3.ms A3.fs (by omega) 4 ↑F.length
 have AA:=((A.after A2).after A3).then A4
 have hf2:=A.fs.gf
 have hf3:=A2.fs.gf
 have hf4:=A3.fs.gf
 have bg:=b.step A2.st
 have bg3:=bg.g3
 have bg4:=bg.g4
 have bg5:=bg.g5
 have bh:=bg.step A3.st
 have bh3:=bh.g3
 have bh4:=bh.g4
 have bh5:=bh.g5
 have K:evL E 42 [.ptr (some (f,0)),t.av,.sl oe (strs en)] h=some (.tup [],hE):=by
  rw[bE E (e.no 42 (by simp)) (by rw[e.fn];kernel_rfl) body42 _ _ rfl]
  simp only[aC,condAt,sub,Tryz.f42]
  unfold box3 at k
  simp only[oFun]at c0
  rw[bZ t]at k ⊢
  simp only[bZ (kid t 0)]at a0 k4
  rw[show strs [(⟨t.name⟩:Str)]=[AV.str t.name] from rfl]at k3
  simp[EVT,aT,TYC,hty,hpl,bytesOf,k,z3,b23,b24,b25,c0,a0,k3,k4,k5,hf2,hf3,bg3,bg4,bh3]
 have G:gen (d+1) t en S F.length l.length=((cZ (gen d) (kid t 0) (⟨t.name⟩::en) S F.length).1,(cZ (gen d) (kid t 0) (⟨t.name⟩::en) S F.length).2,[⟨4,↑F.length⟩]):=by simp only[gen,hg,c0,cond_true]
 unfold Gives
 rw[G]
 exact⟨hE,_,_,_,_,K,AA⟩
theorem node_let (e:EOk E) (nr:NR E d) (M:MS h m dep fv F w S) (X:FS h m f v l) (ht:t.dep≤d+1) (ha:arOk t=true) (b1:S.length+t.size≤1000000) (b2:F.length+t.size≤1000000) (b3:l.length+8*t.size≤1000000) (b4:en.length+2*t.dep≤1000000) (hg:dL t.op t.name t.n en S=none) (c0:aB t.op oFun=false) (c1:aB t.op oLet=true) :
  Gives E h m f dep fv v F w l t oe en (gen (d+1) t en S F.length l.length):=by
 have hs1:1≤t.size:=by rw[size_eq];omega
 obtain⟨h2,w2,v2,k,A,b⟩:=start42 (en:=en) e M X (by omega) (by omega) (by omega) oe t
 rw[hg]at A k
 replace A:fU m f dep h fv v F w S [] l h2 fv v2 [] w2:=A
 replace k:evL E 69 [.ptr (some (f,0)),t.av,.sl oe (strs en)] (box3 h f t oe en)=some (.bool false,h2):=k
 have hn:=(dQ ha).1 2 (by simp[arity,c0,c1])
 have hs:=kids2 hn
 have i0:0<t.kids.length:=by omega
 have d0:=dK i0
 have s0:1≤(kid t 0).size:=by rw[size_eq];omega
 have a0:=cX (dG i0)
 have l0:=fun en S nf pos=>cW d (kid t 0) en S nf pos (cQ ha i0)
 have i1:1<t.kids.length:=by omega
 have d1:=dK i1
 have s1:1≤(kid t 1).size:=by rw[size_eq];omega
 have a1:=cX (dG i1)
 have l1:=fun en S nf pos=>cW d (kid t 1) en S nf pos (cQ ha i1)
 have hty:=e.ty
 have hpl:=e.pl
 have z1:h.nx+1≠h.nx:=by omega
 have z2:h.nx≠h.nx+1:=by omega
 have z3:h.nx≠h.nx+1+1:=by omega
 have z4:h.nx+1≠h.nx+1+1:=by omega
 have b23:=b.g3
 have b24:=b.g4
 have b25:=b.g5
 obtain⟨h3,fv3,v3,N3,w3,k3,A3⟩:=nr (kid t 0) en oe (by omega) (cQ ha i0) A.ms0 A.fs (by omega) (by omega) (by omega) (by omega)
 have b3':=b.step A3.st
 have b33:=b3'.g3
 have b34:=b3'.g4
 have b35:=b3'.g5
 have q0:=l0 en S F.length l.length
 have hN3:=A3.fn.1
 have lF:(F++N3).length=F.length+(gen d (kid t 0) en S F.length l.length).2.1.length:=by rw[List.length_append,hN3]
 generalize hR:gen d (kid t 0) en S F.length l.length=R at *
 obtain⟨q1,q2,q3⟩:=q0
 obtain⟨hE,fv4,v4,N4,w4,k4,A4⟩:=bound_run e nr (kid t 1) t.name en oe (by omega) (cQ ha i1) A3.ms A3.fs (by omega) (by omega) (by simp;omega) (by omega)
 rw[lF,List.length_append]at A4
 have AA:=(A.after A3).trans A4
 have K:evL E 42 [.ptr (some (f,0)),t.av,.sl oe (strs en)] h=some (.tup [],hE):=by
  rw[bE E (e.no 42 (by simp)) (by rw[e.fn];kernel_rfl) body42 _ _ rfl]
  simp only[aC,condAt,sub,Tryz.f42]
  unfold box3 at k
  simp only[oFun,oLet]at c0 c1
  rw[bZ t]at k ⊢
  simp only[bZ (kid t 0)]at a0 k3
  simp only[bZ (kid t 1)]at a1 k4
  simp[EVT,aT,TYC,hty,hpl,bytesOf,k,z3,b23,b24,b25,c0,c1,a0,a1,k3,k4,b33,b34,b35]
 have G:gen (d+1) t en S F.length l.length=cI (gen d (kid t 0) en S F.length l.length) (genB (gen d) (kid t 1) t.name en) F.length l.length:=by simp only[gen,hg,c0,c1,cond_true,cond_false]
 unfold Gives
 rw[G]
 simp only[cI,hR]
 rw[List.append_assoc]at AA
 exact⟨hE,_,_,_,_,K,AA⟩
theorem node_rec (e:EOk E) (nr:NR E d) (M:MS h m dep fv F w S) (X:FS h m f v l) (ht:t.dep≤d+1) (ha:arOk t=true) (b1:S.length+t.size≤1000000) (b2:F.length+t.size≤1000000) (b3:l.length+8*t.size≤1000000) (b4:en.length+2*t.dep≤1000000) (hg:dL t.op t.name t.n en S=none) (c0:aB t.op oFun=false) (c1:aB t.op oLet=false) (c2:aB t.op oRec=true) :
  Gives E h m f dep fv v F w l t oe en (gen (d+1) t en S F.length l.length):=by
 have hs1:1≤t.size:=by rw[size_eq];omega
 obtain⟨h2,w2,v2,k,A,b⟩:=start42 (en:=en) e M X (by omega) (by omega) (by omega) oe t
 rw[hg]at A k
 replace A:fU m f dep h fv v F w S [] l h2 fv v2 [] w2:=A
 replace k:evL E 69 [.ptr (some (f,0)),t.av,.sl oe (strs en)] (box3 h f t oe en)=some (.bool false,h2):=k
 have hn:=(dQ ha).1 2 (by simp[arity,c0,c1,c2])
 have hs:=kids2 hn
 have i0:0<t.kids.length:=by omega
 have d0:=dK i0
 have s0:1≤(kid t 0).size:=by rw[size_eq];omega
 have a0:=cX (dG i0)
 have l0:=fun en S nf pos=>cW d (kid t 0) en S nf pos (cQ ha i0)
 have i1:1<t.kids.length:=by omega
 have d1:=dK i1
 have s1:1≤(kid t 1).size:=by rw[size_eq];omega
 have a1:=cX (dG i1)
 have l1:=fun en S nf pos=>cW d (kid t 1) en S nf pos (cQ ha i1)
 have hty:=e.ty
 have hpl:=e.pl
 have z1:h.nx+1≠h.nx:=by omega
 have z2:h.nx≠h.nx+1:=by omega
 have z3:h.nx≠h.nx+1+1:=by omega
 have z4:h.nx+1≠h.nx+1+1:=by omega
 have b23:=b.g3
 have b24:=b.g4
 have b25:=b.g5
 obtain⟨h3,ow,k3,n3,g3⟩:=under_run (E:=E) hty hpl (e.no 70 (by simp)) (e.no 114 (by simp)) e.gr e.fn (oa := .full) (ob:=oe) (a:=[(⟨t.arg⟩:Str),⟨t.name⟩]) (b:=en) (by simp;omega) h2
 have A2:=made_grow (m:=m) (f:=f) (dep:=dep) A.ms0 A.fs n3 g3
 obtain⟨h4,fv4,N4,w4,k4,A3⟩:=made_fun e nr (kid t 0) ((⟨t.arg⟩:Str)::⟨t.name⟩::en) ow (by omega) (cQ ha i0) A2.ms0 A2.fs (by omega) (by omega) (by omega) (by simp;omega)
 obtain⟨h5,id5,k5,A4⟩:=fV e A3.ms A3.fs (by omega) 5 ↑F.length
 have A5:=((A.after A2).after A3).then A4
 have hf2:=A.fs.gf
 have hf3:=A2.fs.gf
 have hf4:=A3.fs.gf
 have bg:=b.step A2.st
 have bg3:=bg.g3
 have bg4:=bg.g4
 have bg5:=bg.g5
 have bh:=bg.step A3.st
 have bh3:=bh.g3
 have bh4:=bh.g4
 have bh5:=bh.g5
 have b3':=b.step (((A2.after A3).then A4).st)
 have b33:=b3'.g3
 have b34:=b3'.g4
 have b35:=b3'.g5
 have q0:=l0 ((⟨t.arg⟩:Str)::⟨t.name⟩::en) S (F.length+1) 0
 have hN3:=A5.fn.1
 have lF:(F++N4).length=F.length+(cZ (gen d) (kid t 0) (⟨t.arg⟩::⟨t.name⟩::en) S F.length).2.length:=by rw[List.length_append,hN3]
 have lS:(cZ (gen d) (kid t 0) (⟨t.arg⟩::⟨t.name⟩::en) S F.length).1.length≤S.length+(kid t 0).size:=q0.1
 have lN:(cZ (gen d) (kid t 0) (⟨t.arg⟩::⟨t.name⟩::en) S F.length).2.length≤(kid t 0).size+1:=by simp only[cZ,List.length_cons];have:=q0.2.1;omega
 generalize hR:cZ (gen d) (kid t 0) (⟨t.arg⟩::⟨t.name⟩::en) S F.length=R at *
 obtain⟨hE,fv6,v6,N6,w6,k6,A6⟩:=bound_run e nr (kid t 1) t.name en oe (by omega) (cQ ha i1) A5.ms A5.fs (by omega) (by omega) (by simp;omega) (by omega)
 rw[lF,List.length_append]at A6
 have AA:=A5.trans A6
 have K:evL E 42 [.ptr (some (f,0)),t.av,.sl oe (strs en)] h=some (.tup [],hE):=by
  rw[bE E (e.no 42 (by simp)) (by rw[e.fn];kernel_rfl) body42 _ _ rfl]
  simp only[aC,condAt,sub,Tryz.f42]
  unfold box3 at k
  simp only[oFun,oLet,oRec]at c0 c1 c2
  rw[bZ t]at k ⊢
  simp only[bZ (kid t 0)]at a0 k4
  simp only[bZ (kid t 1)]at a1 k6
  rw[show strs [(⟨t.arg⟩:Str),⟨t.name⟩]=[AV.str t.arg,AV.str t.name] from rfl]at k3
  simp[EVT,aT,TYC,hty,hpl,bytesOf,k,z3,b23,b24,b25,c0,c1,c2,a0,a1,k3,k4,k5,k6,hf2,hf3,bg3,bg4,bh3,b33,b34,b35]
 have G:gen (d+1) t en S F.length l.length=cI ((cZ (gen d) (kid t 0) (⟨t.arg⟩::⟨t.name⟩::en) S F.length).1,(cZ (gen d) (kid t 0) (⟨t.arg⟩::⟨t.name⟩::en) S F.length).2,[⟨5,↑F.length⟩]) (genB (gen d) (kid t 1) t.name en) F.length l.length:=by simp only[gen,hg,c0,c1,c2,cond_true,cond_false]
 unfold Gives
 rw[G]
 simp only[cI,hR]
 rw[List.append_assoc]at AA
 exact⟨hE,_,_,_,_,K,AA⟩
theorem node_if (e:EOk E) (nr:NR E d) (M:MS h m dep fv F w S) (X:FS h m f v l) (ht:t.dep≤d+1) (ha:arOk t=true) (b1:S.length+t.size≤1000000) (b2:F.length+t.size≤1000000) (b3:l.length+8*t.size≤1000000) (b4:en.length+2*t.dep≤1000000) (hg:dL t.op t.name t.n en S=none) (c0:aB t.op oFun=false) (c1:aB t.op oLet=false) (c2:aB t.op oRec=false) (c3:aB t.op oIf=true) :
  Gives E h m f dep fv v F w l t oe en (gen (d+1) t en S F.length l.length):=by
 have hs1:1≤t.size:=by rw[size_eq];omega
 obtain⟨h2,w2,v2,k,A,b⟩:=start42 (en:=en) e M X (by omega) (by omega) (by omega) oe t
 rw[hg]at A k
 replace A:fU m f dep h fv v F w S [] l h2 fv v2 [] w2:=A
 replace k:evL E 69 [.ptr (some (f,0)),t.av,.sl oe (strs en)] (box3 h f t oe en)=some (.bool false,h2):=k
 have hn:=(dQ ha).1 3 (ar3 c3 (.inl rfl))
 have hs:=kids3 hn
 have i0:0<t.kids.length:=by omega
 have d0:=dK i0
 have s0:1≤(kid t 0).size:=by rw[size_eq];omega
 have a0:=cX (dG i0)
 have l0:=fun en S nf pos=>cW d (kid t 0) en S nf pos (cQ ha i0)
 have i1:1<t.kids.length:=by omega
 have d1:=dK i1
 have s1:1≤(kid t 1).size:=by rw[size_eq];omega
 have a1:=cX (dG i1)
 have l1:=fun en S nf pos=>cW d (kid t 1) en S nf pos (cQ ha i1)
 have i2:2<t.kids.length:=by omega
 have d2:=dK i2
 have s2:1≤(kid t 2).size:=by rw[size_eq];omega
 have a2:=cX (dG i2)
 have l2:=fun en S nf pos=>cW d (kid t 2) en S nf pos (cQ ha i2)
 have hty:=e.ty
 have hpl:=e.pl
 have z1:h.nx+1≠h.nx:=by omega
 have z2:h.nx≠h.nx+1:=by omega
 have z3:h.nx≠h.nx+1+1:=by omega
 have z4:h.nx+1≠h.nx+1+1:=by omega
 have b23:=b.g3
 have b24:=b.g4
 have b25:=b.g5
 obtain⟨h3,fv3,v3,N3,w3,k3,A3⟩:=nr (kid t 0) en oe (by omega) (cQ ha i0) A.ms0 A.fs (by omega) (by omega) (by omega) (by omega)
 have b3':=b.step A3.st
 have b33:=b3'.g3
 have b34:=b3'.g4
 have b35:=b3'.g5
 have q0:=l0 en S F.length l.length
 have hN3:=A3.fn.1
 have lF:(F++N3).length=F.length+(gen d (kid t 0) en S F.length l.length).2.1.length:=by rw[List.length_append,hN3]
 generalize hR:gen d (kid t 0) en S F.length l.length=R at *
 obtain⟨q1,q2,q3⟩:=q0
 obtain⟨h4,id4,k4,A4⟩:=fV e A3.ms A3.fs (by simp;omega) 12 0
 have e4:(l++R.2.2).length=l.length+R.2.2.length:=List.length_append
 rw[e4]at A4
 have b4':=b3'.step A4.st
 have b43:=b4'.g3
 obtain⟨hE,fv5,v5,N5,w5,k5,A5⟩:=two_run e (c73_run e nr ht ha i1 b4) (c74_run e nr ht ha i2 b4) (l1 en) (l2 en) b4' A4.ms0 A4.fs (by omega) (by omega) (by simp;omega)
 rw[lF,e4]at A5
 obtain⟨p,hp⟩:∃ p,(l++R.2.2).length=p:=⟨_,rfl⟩
 rw[hp]at k4 k5
 have AA:=((A.after A3).then A4).trans A5
 have K:evL E 42 [.ptr (some (f,0)),t.av,.sl oe (strs en)] h=some (.tup [],hE):=by
  rw[bE E (e.no 42 (by simp)) (by rw[e.fn];kernel_rfl) body42 _ _ rfl]
  simp only[aC,condAt,sub,Tryz.f42]
  unfold box3 at k
  simp only[oFun,oLet,oRec,oIf]at c0 c1 c2 c3
  rw[bZ t]at k ⊢
  simp only[bZ (kid t 0)]at a0 k3
  simp[EVT,aT,TYC,hty,hpl,bytesOf,k,z3,b23,b24,b25,c0,c1,c2,c3,a0,k3,k4,k5,b33,b34,b43]
 have G:gen (d+1) t en S F.length l.length=cI (gen d (kid t 0) en S F.length l.length) (twoG 12 (gen d (kid t 1) en) (gen d (kid t 2) en)) F.length l.length:=by simp only[gen,hg,c0,c1,c2,c3,cond_true,cond_false]
 unfold Gives
 rw[G]
 simp only[cI,hR]at AA ⊢
 rw[List.append_assoc]at AA
 exact⟨hE,_,_,_,_,K,AA⟩
theorem node_match (e:EOk E) (nr:NR E d) (M:MS h m dep fv F w S) (X:FS h m f v l) (ht:t.dep≤d+1) (ha:arOk t=true) (b1:S.length+t.size≤1000000) (b2:F.length+t.size≤1000000) (b3:l.length+8*t.size≤1000000) (b4:en.length+2*t.dep≤1000000) (hg:dL t.op t.name t.n en S=none) (c0:aB t.op oFun=false) (c1:aB t.op oLet=false) (c2:aB t.op oRec=false) (c3:aB t.op oIf=false) (c4:aB t.op dV=true) :
  Gives E h m f dep fv v F w l t oe en (gen (d+1) t en S F.length l.length):=by
 have hs1:1≤t.size:=by rw[size_eq];omega
 obtain⟨h2,w2,v2,k,A,b⟩:=start42 (en:=en) e M X (by omega) (by omega) (by omega) oe t
 rw[hg]at A k
 replace A:fU m f dep h fv v F w S [] l h2 fv v2 [] w2:=A
 replace k:evL E 69 [.ptr (some (f,0)),t.av,.sl oe (strs en)] (box3 h f t oe en)=some (.bool false,h2):=k
 have hn:=(dQ ha).1 3 (ar3 c4 (.inr rfl))
 have hs:=kids3 hn
 have i0:0<t.kids.length:=by omega
 have d0:=dK i0
 have s0:1≤(kid t 0).size:=by rw[size_eq];omega
 have a0:=cX (dG i0)
 have l0:=fun en S nf pos=>cW d (kid t 0) en S nf pos (cQ ha i0)
 have i1:1<t.kids.length:=by omega
 have d1:=dK i1
 have s1:1≤(kid t 1).size:=by rw[size_eq];omega
 have a1:=cX (dG i1)
 have l1:=fun en S nf pos=>cW d (kid t 1) en S nf pos (cQ ha i1)
 have i2:2<t.kids.length:=by omega
 have d2:=dK i2
 have s2:1≤(kid t 2).size:=by rw[size_eq];omega
 have a2:=cX (dG i2)
 have l2:=fun en S nf pos=>cW d (kid t 2) en S nf pos (cQ ha i2)
 have hty:=e.ty
 have hpl:=e.pl
 have z1:h.nx+1≠h.nx:=by omega
 have z2:h.nx≠h.nx+1:=by omega
 have z3:h.nx≠h.nx+1+1:=by omega
 have z4:h.nx+1≠h.nx+1+1:=by omega
 have b23:=b.g3
 have b24:=b.g4
 have b25:=b.g5
 obtain⟨h3,fv3,v3,N3,w3,k3,A3⟩:=nr (kid t 0) en oe (by omega) (cQ ha i0) A.ms0 A.fs (by omega) (by omega) (by omega) (by omega)
 have b3':=b.step A3.st
 have b33:=b3'.g3
 have b34:=b3'.g4
 have b35:=b3'.g5
 have q0:=l0 en S F.length l.length
 have hN3:=A3.fn.1
 have lF:(F++N3).length=F.length+(gen d (kid t 0) en S F.length l.length).2.1.length:=by rw[List.length_append,hN3]
 generalize hR:gen d (kid t 0) en S F.length l.length=R at *
 obtain⟨q1,q2,q3⟩:=q0
 obtain⟨h4,id4,k4,A4⟩:=fV e A3.ms A3.fs (by simp;omega) 13 0
 have e4:(l++R.2.2).length=l.length+R.2.2.length:=List.length_append
 rw[e4]at A4
 have b4':=b3'.step A4.st
 have b43:=b4'.g3
 obtain⟨hE,fv5,v5,N5,w5,k5,A5⟩:=two_run e (c75_run e nr ht ha i2 b4) (c76_run e nr ht ha i1 b4) (fun S nf pos=>fA.cI (fA.cI (l2 _ S nf pos) fun S nf pos=>fA.gB S _ nf pos) fun S nf pos=>fA.gB S _ nf pos) (l1 en) b4' A4.ms0 A4.fs (by omega) (by omega) (by simp;omega)
 rw[lF,e4]at A5
 obtain⟨p,hp⟩:∃ p,(l++R.2.2).length=p:=⟨_,rfl⟩
 rw[hp]at k4 k5
 have AA:=((A.after A3).then A4).trans A5
 have K:evL E 42 [.ptr (some (f,0)),t.av,.sl oe (strs en)] h=some (.tup [],hE):=by
  rw[bE E (e.no 42 (by simp)) (by rw[e.fn];kernel_rfl) body42 _ _ rfl]
  simp only[aC,condAt,sub,Tryz.f42]
  unfold box3 at k
  simp only[oFun,oLet,oRec,oIf,dV]at c0 c1 c2 c3 c4
  rw[bZ t]at k ⊢
  simp only[bZ (kid t 0)]at a0 k3
  simp[EVT,aT,TYC,hty,hpl,bytesOf,k,z3,b23,b24,b25,c0,c1,c2,c3,c4,a0,k3,k4,k5,b33,b34,b43]
 have G:gen (d+1) t en S F.length l.length=cI (gen d (kid t 0) en S F.length l.length) (twoG 13 (fun S nf pos=>cI (cI (gen d (kid t 2) (⟨t.arg⟩::⟨t.name⟩::en) S nf pos) (gB ⟨7,0⟩) nf pos) (gB ⟨7,0⟩) nf pos) (gen d (kid t 1) en)) F.length l.length:=by simp only[gen,hg,c0,c1,c2,c3,c4,cond_true,cond_false]
 unfold Gives
 rw[G]
 simp only[cI,hR]at AA ⊢
 rw[List.append_assoc]at AA
 exact⟨hE,_,_,_,_,K,AA⟩
theorem node_try (e:EOk E) (nr:NR E d) (M:MS h m dep fv F w S) (X:FS h m f v l) (ht:t.dep≤d+1) (ha:arOk t=true) (b1:S.length+t.size≤1000000) (b2:F.length+t.size≤1000000) (b3:l.length+8*t.size≤1000000) (b4:en.length+2*t.dep≤1000000) (hg:dL t.op t.name t.n en S=none) (c0:aB t.op oFun=false) (c1:aB t.op oLet=false) (c2:aB t.op oRec=false) (c3:aB t.op oIf=false) (c4:aB t.op dV=false) (c5:aB t.op oTry=true) :
  Gives E h m f dep fv v F w l t oe en (gen (d+1) t en S F.length l.length):=by
 have hs1:1≤t.size:=by rw[size_eq];omega
 obtain⟨h2,w2,v2,k,A,b⟩:=start42 (en:=en) e M X (by omega) (by omega) (by omega) oe t
 rw[hg]at A k
 replace A:fU m f dep h fv v F w S [] l h2 fv v2 [] w2:=A
 replace k:evL E 69 [.ptr (some (f,0)),t.av,.sl oe (strs en)] (box3 h f t oe en)=some (.bool false,h2):=k
 have hn:=(dQ ha).1 2 (by simp[arity,c0,c1,c2,c3,c4,c5])
 have hs:=kids2 hn
 have i0:0<t.kids.length:=by omega
 have d0:=dK i0
 have s0:1≤(kid t 0).size:=by rw[size_eq];omega
 have a0:=cX (dG i0)
 have l0:=fun en S nf pos=>cW d (kid t 0) en S nf pos (cQ ha i0)
 have i1:1<t.kids.length:=by omega
 have d1:=dK i1
 have s1:1≤(kid t 1).size:=by rw[size_eq];omega
 have a1:=cX (dG i1)
 have l1:=fun en S nf pos=>cW d (kid t 1) en S nf pos (cQ ha i1)
 have hty:=e.ty
 have hpl:=e.pl
 have z1:h.nx+1≠h.nx:=by omega
 have z2:h.nx≠h.nx+1:=by omega
 have z3:h.nx≠h.nx+1+1:=by omega
 have z4:h.nx+1≠h.nx+1+1:=by omega
 have b23:=b.g3
 have b24:=b.g4
 have b25:=b.g5
 obtain⟨h4,id4,k4,A4⟩:=fV e A.ms0 A.fs (by omega) 14 0
 have b4':=b.step A4.st
 have b43:=b4'.g3
 obtain⟨hE,fv5,v5,N5,w5,k5,A5⟩:=two_run e (c77_run e nr ht ha i0 b4) (c78_run e nr ht ha i1 b4) (fun S nf pos=>fA.cI (l0 en S nf pos) fun S nf pos=>fA.gB S _ nf pos) (fun S nf pos=>(fA.genB (l1) t.name en S nf pos).more (Nat.le_refl _) (by omega)) b4' A4.ms0 A4.fs (by omega) (by omega) (by omega)
 have AA:=(A.after A4).after A5
 have K:evL E 42 [.ptr (some (f,0)),t.av,.sl oe (strs en)] h=some (.tup [],hE):=by
  rw[bE E (e.no 42 (by simp)) (by rw[e.fn];kernel_rfl) body42 _ _ rfl]
  simp only[aC,condAt,sub,Tryz.f42]
  unfold box3 at k
  simp only[oFun,oLet,oRec,oIf,dV,oTry]at c0 c1 c2 c3 c4 c5
  rw[bZ t]at k ⊢
  simp[EVT,aT,TYC,hty,hpl,bytesOf,k,z3,b23,b24,c0,c1,c2,c3,c4,c5,k4,k5,b43]
 have G:gen (d+1) t en S F.length l.length=twoG 14 (fun S nf pos=>cI (gen d (kid t 0) en S nf pos) (gB ⟨15,0⟩) nf pos) (genB (gen d) (kid t 1) t.name en) S F.length l.length:=by simp only[gen,hg,c0,c1,c2,c3,c4,c5,cond_true,cond_false]
 unfold Gives
 rw[G]
 exact⟨hE,_,_,_,_,K,AA⟩
theorem node_seq (e:EOk E) (nr:NR E d) (M:MS h m dep fv F w S) (X:FS h m f v l) (ht:t.dep≤d+1) (ha:arOk t=true) (b1:S.length+t.size≤1000000) (b2:F.length+t.size≤1000000) (b3:l.length+8*t.size≤1000000) (b4:en.length+2*t.dep≤1000000) (hg:dL t.op t.name t.n en S=none) (c0:aB t.op oFun=false) (c1:aB t.op oLet=false) (c2:aB t.op oRec=false) (c3:aB t.op oIf=false) (c4:aB t.op dV=false) (c5:aB t.op oTry=false) (c6:aB t.op oSeq=true) :
  Gives E h m f dep fv v F w l t oe en (gen (d+1) t en S F.length l.length):=by
 have hs1:1≤t.size:=by rw[size_eq];omega
 obtain⟨h2,w2,v2,k,A,b⟩:=start42 (en:=en) e M X (by omega) (by omega) (by omega) oe t
 rw[hg]at A k
 replace A:fU m f dep h fv v F w S [] l h2 fv v2 [] w2:=A
 replace k:evL E 69 [.ptr (some (f,0)),t.av,.sl oe (strs en)] (box3 h f t oe en)=some (.bool false,h2):=k
 have hn:=(dQ ha).1 2 (by simp[arity,c0,c1,c2,c3,c4,c5,c6])
 have hs:=kids2 hn
 have i0:0<t.kids.length:=by omega
 have d0:=dK i0
 have s0:1≤(kid t 0).size:=by rw[size_eq];omega
 have a0:=cX (dG i0)
 have l0:=fun en S nf pos=>cW d (kid t 0) en S nf pos (cQ ha i0)
 have i1:1<t.kids.length:=by omega
 have d1:=dK i1
 have s1:1≤(kid t 1).size:=by rw[size_eq];omega
 have a1:=cX (dG i1)
 have l1:=fun en S nf pos=>cW d (kid t 1) en S nf pos (cQ ha i1)
 have hty:=e.ty
 have hpl:=e.pl
 have z1:h.nx+1≠h.nx:=by omega
 have z2:h.nx≠h.nx+1:=by omega
 have z3:h.nx≠h.nx+1+1:=by omega
 have z4:h.nx+1≠h.nx+1+1:=by omega
 have b23:=b.g3
 have b24:=b.g4
 have b25:=b.g5
 obtain⟨h3,fv3,v3,N3,w3,k3,A3⟩:=nr (kid t 0) en oe (by omega) (cQ ha i0) A.ms0 A.fs (by omega) (by omega) (by omega) (by omega)
 have b3':=b.step A3.st
 have b33:=b3'.g3
 have q0:=l0 en S F.length l.length
 have hN3:=A3.fn.1
 have lF:(F++N3).length=F.length+(gen d (kid t 0) en S F.length l.length).2.1.length:=by rw[List.length_append,hN3]
 generalize hR:gen d (kid t 0) en S F.length l.length=R at *
 obtain⟨q1,q2,q3⟩:=q0
 obtain⟨h4,id4,k4,A4⟩:=fV e A3.ms A3.fs (by simp;omega) 8 0
 have b4':=b3'.step A4.st
 have b43:=b4'.g3
 have b44:=b4'.g4
 have b45:=b4'.g5
 have A34:=A3.then A4
 obtain⟨hE,fv5,v5,N5,w5,k5,A5⟩:=nr (kid t 1) en oe (by omega) (cQ ha i1) A34.ms A34.fs (by omega) (by omega) (by simp;omega) (by omega)
 rw[lF]at A5
 have AA:=(A.after A34).trans A5
 have K:evL E 42 [.ptr (some (f,0)),t.av,.sl oe (strs en)] h=some (.tup [],hE):=by
  rw[bE E (e.no 42 (by simp)) (by rw[e.fn];kernel_rfl) body42 _ _ rfl]
  simp only[aC,condAt,sub,Tryz.f42]
  unfold box3 at k
  simp only[oFun,oLet,oRec,oIf,dV,oTry,oSeq]at c0 c1 c2 c3 c4 c5 c6
  rw[bZ t]at k ⊢
  simp only[bZ (kid t 0)]at a0 k3
  simp only[bZ (kid t 1)]at a1 k5
  simp[EVT,aT,TYC,hty,hpl,bytesOf,k,z3,b23,b24,b25,c0,c1,c2,c3,c4,c5,c6,a0,a1,k3,k4,k5,b33,b43,b44,b45]
 have G:gen (d+1) t en S F.length l.length=cI (cI (gen d (kid t 0) en S F.length l.length) (gB ⟨8,0⟩) F.length l.length) (gen d (kid t 1) en) F.length l.length:=by simp only[gen,hg,c0,c1,c2,c3,c4,c5,c6,cond_true,cond_false]
 unfold Gives
 rw[G]
 simp only[cI,gB,hR,List.append_nil,List.length_append,List.length_cons,List.length_nil,Nat.zero_add,List.append_assoc]at AA ⊢
 exact⟨hE,_,_,_,_,K,AA⟩
end
end Go.Proofs.YtogjplcnmibnlaaGreatDoor.Env
