/- A function that is made. -/
import Derived.Test.YtogjplcnmibnlaaGreatDoorCN
set_option autoImplicit false
set_option maxRecDepth 100000
set_option maxHeartbeats 8000000
set_option linter.unusedSimpArgs false
set_option linter.unusedVariables false
namespace Go.Proofs.YtogjplcnmibnlaaGreatDoor.Env
open Go.Ev Go.Ev.Nd
theorem fill_one (y:AV) (x:AV) (N:List AV):∀ F:List AV,aY (F++x::N) F.length [y]=F++y::N
 | []=>by simp[aY]
 | a::F=>by simp[aY,fill_one y x N F]
abbrev Tm0 (m:Nat) (fv:AV) (w:Go.Ev.Own):Nat→Prop:=Tch m m fv w (.sl .full [])
theorem body22:Tryz.f22.body=some (aC Tryz.f22 []):=rfl
theorem MS.nt {h:H} {m:Nat} {dep:Int} {fv:AV} {F:List AV} {w:Go.Ev.Own} {S:List Str} (M:MS h m dep fv F w S) {j:Nat} (ht:Tm0 m fv w j):j<h.nx:=by
 rcases ht with h1|h1|h1|h1|h1
 ·rw[h1];exact M.mx
 ·rw[h1];exact M.mx
 ·rcases M.fr with ⟨e,_⟩|⟨i,e,_,hi⟩
  ·rw[e]at h1;simp[cB]at h1
  ·rw[e]at h1;simp[cB]at h1;omega
 ·rcases M.sr with ⟨e,_⟩|⟨i,e,_,hi⟩
  ·rw[e]at h1;cases h1
  ·rw[e]at h1;injection h1 with h1;omega
 ·simp[cB]at h1
theorem fun_run {E:Env} (e:EOk E) {d:Nat} (nr:NR E d) (k:Nd) (en:List Str) (oe:Go.Ev.Own) {h:H} {m:Nat} {dep:Int} {fv:AV} {F:List AV} {w:Go.Ev.Own} {S:List Str} (hd:k.dep≤d) (ha:arOk k=true) (M:MS h m dep fv F w S)
  (b1:S.length+k.size≤1000000) (b2:F.length+1+k.size≤1000000) (b3:8*k.size+8≤1000000) (b4:en.length+2*k.dep≤1000000) :
  ∃ h' fv' N' w',evL E 22 [.ptr (some (m,0)),k.av,.sl oe (strs en)] h=some (.int .i64 ↑F.length,h') ∧
   MS h' m dep fv' (F++N') w' (cZ (gen d) k en S F.length).1∧FnsR h' h.nx (Tm0 m fv' w') N' (cZ (gen d) k en S F.length).2∧Stp m m h fv w (.sl .full []) h' fv' w' (.sl .full []):=by
 have hty:=e.ty
 have hpl:=e.pl
 have gn:∀ j,j<h.nx→(⟨h.t.set h.nx (.cells [.str k.op,.str k.name,.str k.arg,.int .i64 k.n,.int .i64 k.at_,.sl .no (avs k.kids)]),h.nx+1⟩:H).t.get j=h.t.get j:=fun j hj=>T.aD _ _ (by omega)
 have M1:=M.grow (Nat.le_succ _) gn
 generalize hh1:(⟨h.t.set h.nx (.cells [.str k.op,.str k.name,.str k.arg,.int .i64 k.n,.int .i64 k.at_,.sl .no (avs k.kids)]),h.nx+1⟩:H)=h1 at *
 have nx1:h1.nx=h.nx+1:=by rw[←hh1]
 have hb1:h1.t.get h.nx=some (.cells [.str k.op,.str k.name,.str k.arg,.int .i64 k.n,.int .i64 k.at_,.sl .no (avs k.kids)]):=by rw[←hh1];exact T.bO _ _ _
 have gr:∀ j,j<h1.nx→(⟨h1.t.set h1.nx (.row 1 54 1 [.sl .full []]),h1.nx+1⟩:H).t.get j=h1.t.get j:=fun j hj=>T.aD _ _ (by omega)
 have M1r:=M1.grow (Nat.le_succ _) gr
 obtain⟨fv2,h2,k2,f2,r2,id2,rfl,q2⟩:=appR_funs M1r.fr (by omega) (i1:=h1.nx) (x := .sl .full []) rfl (T.bO _ _ _)
 have hm2:h2.t.get m=some (.cells [.int .i64 dep,fv,.sl w (strs S)]):=by
  rw[r2.2 m M1r.mx (by cases hr:cB fv with|none=>simp|some i=>simp;rintro rfl;exact M1r.fr.nc M1r.gm hr)]
  exact M1r.gm
 have id2m:id2≠m:=by
  rintro rfl
  rcases q2 with e|e
  ·exact M1r.fr.nc M1r.gm e
  ·have:=M1r.mx;omega
 have idf:∀ j,j<h1.nx→cB fv≠some j→h2.t.get j=h1.t.get j:=fun j hj hr=>by
  rw[r2.2 j (Nat.lt_succ_of_lt hj) (by cases hr2:cB fv with|none=>simp|some i=>simp;rintro rfl;exact hr hr2)]
  exact gr j hj
 generalize hh3:(⟨h2.t.set m (.cells [.int .i64 dep,.rs id2 (F.length+1) true,.sl w (strs S)]),h2.nx⟩:H)=h3
 have nx3:h3.nx=h2.nx:=by rw[←hh3]
 have g3:∀ j,j≠m→h3.t.get j=h2.t.get j:=fun j hj=>by rw[←hh3];exact T.aD _ _ hj
 have n12:h1.nx+1≤h2.nx:=r2.1
 have M3:MS h3 m dep (.rs id2 (F.length+1) true) (F++[.sl .full []]) w S:=by
  refine⟨by rw[←hh3];exact T.bO _ _ _,by rw[nx3];exact Nat.lt_of_lt_of_le M1r.mx r2.1,?_,?_⟩
  ·rcases f2 with ⟨e,_⟩|⟨i,e,hi,hlt⟩
   ·cases e
   ·injection e with e1 e2
    subst e1
    exact .inr ⟨id2,by simp,by rw[g3 id2 id2m];exact hi,by rw[nx3];exact hlt⟩
  ·rcases M1.sr with e|⟨i,e,hi,hlt⟩
   ·exact .inl e
   ·refine .inr ⟨i,e,?_,by rw[nx3];omega⟩
    rw[g3 i (by rintro rfl;rw[M1.gm]at hi;cases hi),idf i hlt (str_fun M1.sr M1.fr e)]
    exact hi
 have st3:Stp m m h fv w (.sl .full []) h3 (.rs id2 (F.length+1) true) w (.sl .full []):=by
  refine⟨by rw[nx3];omega,fun j hj ht => ?_,fun j ht => ?_,fun j hj=>by simp[cB]at hj⟩
  ·unfold Tch at ht
   simp only[not_or]at ht
   rw[g3 j ht.1,idf j (by omega) ht.2.2.1]
   exact gn j hj
  ·rcases ht with h1'|h1'|h1'|h1'|h1'
   ·exact .inl (.inl h1')
   ·exact .inl (.inl h1')
   ·simp only[cB,Option.some.injEq]at h1'
    subst h1'
    rcases q2 with e|e
    ·exact .inl (.inr (.inr (.inl e)))
    ·simp only at e
     exact .inr (by omega)
   ·exact .inl (.inr (.inr (.inr (.inl h1'))))
   ·simp[cB]at h1'
 have g4:∀ j,j<h3.nx→(⟨h3.t.set h3.nx (.cells [.ptr (some (m,0)),.sl .full []]),h3.nx+1⟩:H).t.get j=h3.t.get j:=fun j hj=>T.aD _ _ (by omega)
 have M4:=M3.grow (Nat.le_succ _) g4
 have X4:FS (⟨h3.t.set h3.nx (.cells [.ptr (some (m,0)),.sl .full []]),h3.nx+1⟩:H) m h3.nx (.sl .full []) []:=⟨T.bO _ _ _,Nat.lt_succ_self _,.inl ⟨rfl,rfl⟩⟩
 obtain⟨h5,fv5,v5,N5,w5,k5,A5⟩:=nr k en oe hd ha M4 X4 (by omega) (by simp;omega) (by simp;omega) (by omega)
 simp only[List.length_append,List.length_cons,List.length_nil,List.nil_append,Nat.zero_add]at A5 k5
 have hlen:=cW d k en S (F.length+1) 0 ha
 obtain⟨h6,id6,k6,A6⟩:=fV e A5.ms A5.fs (by have:=hlen.2.2;omega) 10 0
 have AA:=A5.then A6
 generalize hv6:(AV.rs id6 ((gen d k en S (F.length+1) 0).2.2.length+1) true)=v6 at *
 have hr6:cB v6=some id6:=by rw[←hv6];rfl
 have hone6:v6.one=true:=by rw[←hv6];rfl
 have hcell6:v6.cells=[v6]:=by rw[←hv6];rfl
 obtain⟨id7,e7,hg7,hi7⟩:∃ id7,fv5 = .rs id7 (F++[AV.sl .full []]++N5).length true∧h6.t.get id7=some (.row (F++[AV.sl .full []]++N5).length 54 1 (F++[AV.sl .full []]++N5))∧id7<h6.nx:=by
  rcases AA.ms.fr with ⟨_,e⟩|h
  ·simp at e
  ·exact h
 have hfr7:cB fv5=some id7:=by rw[e7];rfl
 have n67:id6≠id7:=by
  rintro rfl
  exact fun_code AA.ms.fr AA.fs.cr hfr7 hr6
 have n7m:id7≠m:=by rintro rfl;exact AA.ms.fr.nc AA.ms.gm hfr7
 have hfill:aY (F++[AV.sl .full []]++N5) F.length [v6]=F++v6::N5:=by rw[List.append_assoc];exact fill_one _ _ _ F
 generalize hh7:(⟨h6.t.set id7 (.row (F++[AV.sl .full []]++N5).length 54 1 (F++v6::N5)),h6.nx⟩:H)=h7
 have g7:∀ j,j≠id7→h7.t.get j=h6.t.get j:=fun j hj=>by rw[←hh7];exact T.aD _ _ hj
 have nx7:h7.nx=h6.nx:=by rw[←hh7]
 have hlenN:(F++[AV.sl .full []]++N5).length=(F++v6::N5).length:=by simp
 have M7:MS h7 m dep fv5 (F++v6::N5) w5 (gen d k en S (F.length+1) 0).1:=by
  refine⟨by rw[g7 m n7m.symm];exact AA.ms.gm,by rw[nx7];exact AA.ms.mx,.inr ⟨id7,by rw[e7,hlenN],by rw[←hh7,←hlenN];exact T.bO _ _ _,by rw[nx7];exact hi7⟩,?_⟩
  rcases AA.ms.sr with e|⟨i,e,hi,hlt⟩
  ·exact .inl e
  ·refine .inr ⟨i,e,?_,by rw[nx7];exact hlt⟩
   rw[g7 i (by rintro rfl;exact str_fun AA.ms.sr AA.ms.fr e hfr7)]
   exact hi
 have new6:h.nx≤id6:=by
  rcases AA.st.vid id6 hr6 with e|e
  ·simp[cB]at e
  ·simp only at e;omega
 have t34:∀ j,Tch m h3.nx (.rs id2 (F.length+1) true) w (.sl .full []) j→Tm0 m fv w j∨h.nx≤j:=by
  intro j ht
  rcases ht with h1'|h1'|h1'|h1'|h1'
  ·exact .inl (.inl h1')
  ·exact .inr (by omega)
  ·exact st3.new j (.inr (.inr (.inl h1')))
  ·exact st3.new j (.inr (.inr (.inr (.inl h1'))))
  ·simp[cB]at h1'
 have tup:∀ j,Tm0 m fv5 w5 j→Tch m h3.nx fv5 w5 v6 j:=by
  intro j ht
  rcases ht with h1'|h1'|h1'|h1'|h1'
  ·exact .inl h1'
  ·exact .inl h1'
  ·exact .inr (.inr (.inl h1'))
  ·exact .inr (.inr (.inr (.inl h1')))
  ·simp[cB]at h1'
 have tnew:∀ j,Tm0 m fv5 w5 j→Tm0 m fv w j∨h.nx≤j:=fun j ht=>by
  rcases AA.st.new j (tup j ht)with e|e
  ·exact t34 j e
  ·simp only at e;exact .inr (by omega)
 have C7:fI h7 v6 ((gen d k en S (F.length+1) 0).2.2++[⟨10,0⟩]):=AA.fs.cr.mono (Nat.le_of_eq nx7.symm) fun j hj _=>g7 j (by rintro rfl;rw[hr6]at hj;injection hj with hj;exact n67 hj)
 have K:evL E 22 [.ptr (some (m,0)),k.av,.sl oe (strs en)] h=some (.int .i64 ↑F.length,h7):=by
  subst hv6
  have hmm:h1.t.get m=some (.cells [.int .i64 dep,fv,.sl w (strs S)]):=M1.gm
  have nmh:m≠h.nx:=by have:=M.mx;omega
  have nm1:m≠h1.nx:=by have:=M1.mx;omega
  have hb3:h3.t.get h.nx=some (.cells [.str k.op,.str k.name,.str k.arg,.int .i64 k.n,.int .i64 k.at_,.sl .no (avs k.kids)]):=by
   rw[g3 h.nx nmh.symm,idf h.nx (by omega) (fun e=>by
    rcases M.fr with ⟨e',_⟩|⟨i,e',_,hi⟩
    ·rw[e']at e;simp[cB]at e
    ·rw[e']at e;simp[cB]at e;omega)]
   exact hb1
  have n3:h.nx≠h3.nx:=by omega
  have hm6:=AA.ms.gm
  have hf6:=AA.fs.gf
  rw[e7]at hm6
  have hlt:Nat.blt F.length (F++[AV.sl .full []]++N5).length=true:=cR.2 (by simp)
  have hle:F.length+1≤(F++[AV.sl .full []]++N5).length:=by simp
  generalize hL:F++[AV.sl .full []]++N5=L at *
  rw[bE E (e.no 22 (by simp)) (by rw[e.fn];kernel_rfl) body22 _ _ rfl]
  simp only[aC,sub,Tryz.f22]
  rw[bZ k]at k5 ⊢
  rcases M.fr with ⟨rfl,rfl⟩|⟨i,rfl,_⟩
  ·simp only[List.length_nil,Nat.zero_add]at hh3 k2 hlt hle hfill hm2
   have hlt2:0<L.length:=hle
   simp[EVT,aT,bC,aX,bA,bT,aL,aN,aQ,bX,bF,aV,AV.cells,aG,aZ,val,aH,aO,aM,bY,bI,recheck,H.new,H.put,cT,aY,bB,AV.one,setArgs,bQ,bS,bJ,aR,TYC,hty,hpl,hh1,hmm,k2,hm2,hh3,hb3,n3,k5,k6,hm6,hf6,hg7,hle,hlt2,hfill]
   simpa using hh7
  ·have hlt2:F.length<L.length:=hle
   simp[EVT,aT,bC,aX,bA,bT,aL,aN,aQ,bX,bF,aV,AV.cells,aG,aZ,val,aH,aO,aM,bY,bI,recheck,H.new,H.put,cT,aY,bB,AV.one,setArgs,bQ,bS,bJ,aR,TYC,hty,hpl,hh1,hmm,k2,hm2,hh3,hb3,n3,k5,k6,hm6,hf6,hg7,hle,hlt2,hfill,hh7]
 refine⟨h7,fv5,v6::N5,w5,K,M7,?_,?_⟩
 ·refine FnsR.cons C7 (fun id hid => ?_) ?_
  ·rw[hr6]at hid
   injection hid with hid
   subst hid
   refine⟨new6,?_⟩
   rintro(h1'|h1'|h1'|h1'|h1')
   ·subst h1';exact AA.fs.cr.nc AA.ms.gm hr6
   ·subst h1';exact AA.fs.cr.nc AA.ms.gm hr6
   ·exact fun_code AA.ms.fr AA.fs.cr h1' hr6
   ·exact str_code AA.ms.sr AA.fs.cr h1' hr6
   ·simp[cB]at h1'
  ·refine(AA.fn.low (n1:=h.nx) (by simp only;omega)).mono (Nat.le_of_eq nx7.symm) (fun j hj ht=>g7 j ?_) fun j ht => .inl (tup j ht)
   rintro rfl
   exact ht (.inr (.inr (.inl hfr7)))
 ·refine⟨by have:=AA.st.nx;simp only at this;omega,fun j hj ht => ?_,tnew,fun j hj=>by simp[cB]at hj⟩
  have hj3:¬ Tch m h3.nx (.rs id2 (F.length+1) true) w (.sl .full []) j:=fun h'=>(t34 j h').elim ht (by omega)
  have hj7:j≠id7:=by
   rintro rfl
   rcases AA.st.new j (.inr (.inr (.inl hfr7)))with e|e
   ·exact hj3 e
   ·simp only at e;omega
  rw[g7 j hj7,AA.st.keep j (by simp only;omega) hj3,g4 j (by omega)]
  exact st3.keep j hj ht
structure BX (h:H) (b3 b4 b5 f:Nat) (t:Nd) (oe:Go.Ev.Own) (en:List Str) (T:Nat→Prop):Prop where
 g3:h.t.get b3=some (.cells [.ptr (some (f,0))])
 g4:h.t.get b4=some (.cells [.str t.op,.str t.name,.str t.arg,.int .i64 t.n,.int .i64 t.at_,.sl .no (avs t.kids)])
 g5:h.t.get b5=some (.cells [.sl oe (strs en)])
 lt:b3<h.nx∧b4<h.nx∧b5<h.nx
 no:¬ T b3∧¬ T b4∧¬ T b5
theorem BX.step {h h':H} {b3 b4 b5 m f:Nat} {t:Nd} {oe:Go.Ev.Own} {en:List Str} {fv v fv' v':AV} {w w':Go.Ev.Own} (b:BX h b3 b4 b5 f t oe en (Tch m f fv w v)) (s:Stp m f h fv w v h' fv' w' v'):BX h' b3 b4 b5 f t oe en (Tch m f fv' w' v') where
 g3:=by rw[s.keep b3 b.lt.1 b.no.1];exact b.g3
 g4:=by rw[s.keep b4 b.lt.2.1 b.no.2.1];exact b.g4
 g5:=by rw[s.keep b5 b.lt.2.2 b.no.2.2];exact b.g5
 lt:=⟨Nat.lt_of_lt_of_le b.lt.1 s.nx,Nat.lt_of_lt_of_le b.lt.2.1 s.nx,Nat.lt_of_lt_of_le b.lt.2.2 s.nx⟩
 no:=by
  have k:∀ j,j<h.nx→¬ Tch m f fv w v j→¬ Tch m f fv' w' v' j:=fun j hj hn ht=>(s.new j ht).elim hn (by omega)
  exact⟨k _ b.lt.1 b.no.1,k _ b.lt.2.1 b.no.2.1,k _ b.lt.2.2 b.no.2.2⟩
def Run (m f:Nat) (dep:Int) (b3 b4 b5:Nat) (t:Nd) (oe:Go.Ev.Own) (en:List Str) (call:H→Option (AV × H)) (g:List Str→Nat→Nat→G3) (kb cb:Nat):Prop:=
 ∀ {h:H} {fv v:AV} {F:List AV} {w:Go.Ev.Own} {S:List Str} {l:List Ins},BX h b3 b4 b5 f t oe en (Tch m f fv w v)→MS h m dep fv F w S→FS h m f v l→S.length+kb≤1000000→F.length+kb≤1000000→l.length+cb≤1000000 →
 ∃ h' fv' v' N' w',call h=some (.tup [],h')∧fU m f dep h fv v F w (g S F.length l.length).1 (g S F.length l.length).2.1 (l++(g S F.length l.length).2.2) h' fv' v' N' w'
theorem hereF_at (A:List Ins) (x:Ins) (B:List Ins):hereF (A++x::B) A.length=A++⟨x.op,↑(A++x::B).length⟩::B:=by
 unfold hereF
 generalize (↑(A++x::B).length:Int)=n
 induction A with
 | nil=>rfl
 | cons a A ih=>simpa using ih
theorem fI.row {h:H} {v:AV} {l:List Ins} (c:fI h v l) (hl:l≠[]):∃ id,v = .rs id l.length true:=by
 rcases c with ⟨_,e⟩|⟨id,e,_⟩
 ·exact absurd e hl
 ·exact⟨id,e⟩
theorem body72:Tryz.f72.body=some (aC Tryz.f72 []):=rfl
theorem two_run {E:Env} (e:EOk E) {m f:Nat} {dep:Int} {b3 b4 b5:Nat} {t:Nd} {oe:Go.Ev.Own} {en:List Str} {c1 c2:Nat} {g1 g2:List Str→Nat→Nat→G3} {k1 k2 q1 q2:Nat}
  (r1:Run m f dep b3 b4 b5 t oe en (fun h=>evL E c1 [.ptr (some (b3,0)),.ptr (some (b4,0)),.ptr (some (b5,0))] h) g1 k1 q1) (r2:Run m f dep b3 b4 b5 t oe en (fun h=>evL E c2 [.ptr (some (b3,0)),.ptr (some (b4,0)),.ptr (some (b5,0))] h) g2 k2 q2)
  (l1:∀ S nf pos,fA S k1 q1 (g1 S nf pos)) (l2:∀ S nf pos,fA S k2 q2 (g2 S nf pos))
  {h:H} {fv v:AV} {F:List AV} {w:Go.Ev.Own} {S:List Str} {L:List Ins} {op:Int} (b:BX h b3 b4 b5 f t oe en (Tch m f fv w v)) (M:MS h m dep fv F w S) (X:FS h m f v (L++[⟨op,0⟩]))
  (s1:S.length+k1+k2≤1000000) (s2:F.length+k1+k2≤1000000) (s3:L.length+q1+q2+2≤1000000) :
  ∃ h' fv' v' N' w',evL E 72 [.ptr (some (f,0)),.int .i64 ↑L.length,.fn c1 [] [.ptr (some (b3,0)),.ptr (some (b4,0)),.ptr (some (b5,0))],.fn c2 [] [.ptr (some (b3,0)),.ptr (some (b4,0)),.ptr (some (b5,0))]] h=some (.tup [],h') ∧
   fU m f dep h fv v F w (twoG op g1 g2 S F.length L.length).1 (twoG op g1 g2 S F.length L.length).2.1 (L++(twoG op g1 g2 S F.length L.length).2.2) h' fv' v' N' w':=by
 have hty:=e.ty
 have hpl:=e.pl
 obtain⟨h1,fv1,v1,N1,w1,j1,A1⟩:=r1 b M X (by omega) (by omega) (by simp;omega)
 have b1:=b.step A1.st
 simp only[List.length_append,List.length_cons,List.length_nil,Nat.zero_add,List.append_assoc,List.cons_append,List.nil_append]at A1
 obtain⟨n1,n2,n3⟩:=l1 S F.length (L.length+1)
 have hN1:=A1.fn.1
 generalize hc1:(g1 S F.length (L.length+1))=R1 at *
 obtain⟨h2,id2,j2,A2⟩:=fV e A1.ms A1.fs (by simp;omega) 11 0
 have b2:=b1.step A2.st
 have e2:(AV.rs id2 ((L++(⟨op,0⟩:Ins)::R1.2.2).length+1) true) = .rs id2 (L++(⟨op,0⟩:Ins)::(R1.2.2++[(⟨11,0⟩:Ins)])).length true:=by simp;omega
 have e2c:(L++(⟨op,0⟩:Ins)::R1.2.2)++[(⟨11,0⟩:Ins)]=L++(⟨op,0⟩:Ins)::(R1.2.2++[(⟨11,0⟩:Ins)]):=by simp
 rw[e2,e2c]at A2
 rw[e2]at b2
 obtain⟨h3,j3,A3⟩:=made_here e A2.ms0 A2.fs (by simp;omega) (p:=L.length) (by simp)
 have b3':=b2.step A3.st
 rw[hereF_at]at A3
 have lq:(L++(⟨op,0⟩:Ins)::(R1.2.2++[(⟨11,0⟩:Ins)])).length=L.length+1+R1.2.2.length+1:=by simp;omega
 rw[lq]at A3 b3' A2
 simp only at A3
 obtain⟨h4,fv4,v4,N4,w4,j4,A4⟩:=r2 b3' A3.ms0 A3.fs (by omega) (by rw[List.length_append,hN1];omega) (by simp;omega)
 have lq3:(L++(⟨op,↑(L.length+1+R1.2.2.length+1)⟩:Ins)::(R1.2.2++[(⟨11,0⟩:Ins)])).length=L.length+1+R1.2.2.length+1:=by simp;omega
 have lF:(F++N1).length=F.length+R1.2.1.length:=by rw[List.length_append,hN1]
 rw[lF,lq3]at A4
 obtain⟨n4,n5,n6⟩:=l2 R1.1 (F.length+R1.2.1.length) (L.length+1+R1.2.2.length+1)
 generalize hc2:g2 R1.1 (F.length+R1.2.1.length) (L.length+1+R1.2.2.length+1)=R2 at *
 obtain⟨id4,rfl⟩:=A4.fs.cr.row (by simp)
 have e4:(L++(⟨op,↑(L.length+1+R1.2.2.length+1)⟩:Ins)::(R1.2.2++[(⟨11,0⟩:Ins)]))++R2.2.2=(L++(⟨op,↑(L.length+1+R1.2.2.length+1)⟩:Ins)::R1.2.2)++(⟨11,0⟩:Ins)::R2.2.2:=by simp
 have lA:(L++(⟨op,↑(L.length+1+R1.2.2.length+1)⟩:Ins)::R1.2.2).length=L.length+1+R1.2.2.length:=by simp;omega
 rw[e4]at A4
 obtain⟨h5,j5,A5⟩:=made_here e A4.ms A4.fs (by simp;omega) (p:=(L++(⟨op,↑(L.length+1+R1.2.2.length+1)⟩:Ins)::R1.2.2).length) (by simp)
 rw[hereF_at]at A5
 have l5:((L++(⟨op,↑(L.length+1+R1.2.2.length+1)⟩:Ins)::R1.2.2)++(⟨11,0⟩:Ins)::R2.2.2).length=L.length+1+R1.2.2.length+1+R2.2.2.length:=by simp;omega
 rw[l5]at A5 A4
 have aF:F++N1++N4=F++(N1++N4):=List.append_assoc ..
 rw[aF]at A5
 have AA:=(((A1.then A2).then A3).trans A4).then A5
 have K:evL E 72 [.ptr (some (f,0)),.int .i64 ↑L.length,.fn c1 [] [.ptr (some (b3,0)),.ptr (some (b4,0)),.ptr (some (b5,0))],.fn c2 [] [.ptr (some (b3,0)),.ptr (some (b4,0)),.ptr (some (b5,0))]] h=some (.tup [],h5):=by
  have lp1:(L++(⟨op,0⟩:Ins)::R1.2.2).length=L.length+1+R1.2.2.length:=by simp;omega
  rw[lp1]at j2
  rw[lA]at j5
  rw[bE E (e.no 72 (by simp)) (by rw[e.fn];kernel_rfl) body72 _ _ rfl]
  simp only[aC,sub,Tryz.f72]
  simp only at j1 j4
  push_cast at j5
  simp[EVT,aT,bC,aX,bA,bT,aL,aN,aG,aZ,val,aH,setArgs,bQ,bS,bJ,aR,j1,j2,j3,j4,j5]
 have hT:twoG op g1 g2 S F.length L.length=(R2.1,R1.2.1++R2.2.1,⟨op,↑(L.length+1+R1.2.2.length+1)⟩::(R1.2.2++⟨11,↑(L.length+1+R1.2.2.length+1+R2.2.2.length)⟩::R2.2.2)):=by
  simp only[twoG,hc1,hc2]
 rw[hT]
 simp only[List.append_assoc,List.cons_append]at AA
 simp only
 exact⟨h5,fv4,_,_,_,K,AA⟩
end Go.Proofs.YtogjplcnmibnlaaGreatDoor.Env
namespace Go.Proofs.YtogjplcnmibnlaaGreatDoor.Env
open Go.Ev Go.Ev.Nd
attribute [local simp] bC aX bA bT aL aN aQ bX bF bW dE cD aV AV.cells aG aZ val aH bN bP cP bG eI aU aO aM bY bI recheck H.new H.put cT aY bB AV.one setArgs bQ bS bJ aR aP bK
theorem dG {t:Nd} {i:Nat} (h:i<t.kids.length):t.kids[i]?=some (kid t i):=by
 unfold kid
 rw[List.getD_eq_getElem?_getD,List.getElem?_eq_getElem h]
 rfl
theorem dK {t:Nd} {i:Nat} (h:i<t.kids.length):(kid t i).dep+1≤t.dep:=by
 have h1:=dep_eq t
 have:=dep_mem (kid_mem h)
 omega
theorem cQ {t:Nd} {i:Nat} (ha:arOk t=true) (h:i<t.kids.length):arOk (kid t i)=true:=(dQ ha).2 _ (kid_mem h)
section
variable {E:Env} {m f:Nat} {dep:Int} {b3 b4 b5:Nat} {t:Nd} {oe:Go.Ev.Own} {en:List Str} {d:Nat}
theorem body73:Tryz.f73.body=some (aC Tryz.f73 []):=rfl
theorem c73_run (e:EOk E) (nr:NR E d) (ht:t.dep≤d+1) (ha:arOk t=true) (hi:1<t.kids.length) (hen:en.length+2*t.dep≤1000000) :
  Run m f dep b3 b4 b5 t oe en (fun h=>evL E 73 [.ptr (some (b3,0)),.ptr (some (b4,0)),.ptr (some (b5,0))] h) (gen d (kid t 1) en) (kid t 1).size (8*(kid t 1).size):=by
 intro h fv v F w S l b M X s1 s2 s3
 have hd:=dK hi
 obtain⟨h',fv',v',N',w',k,A⟩:=nr (kid t 1) en oe (by omega) (cQ ha hi) M X s1 s2 s3 (by omega)
 refine⟨h',fv',v',N',w',?_,A⟩
 have hty:=e.ty
 have hpl:=e.pl
 have hat:=cX (dG hi)
 have g3:=b.g3
 have g4:=b.g4
 have g5:=b.g5
 show evL E 73 _ h=_
 rw[bE E (e.no 73 (by simp)) (by rw[e.fn];kernel_rfl) body73 _ _ rfl]
 simp only[aC,sub,Tryz.f73]
 rw[bZ (kid t 1)]at k hat
 simp[EVT,aT,TYC,hty,hpl,g3,g4,g5,hat,k]
theorem body74:Tryz.f74.body=some (aC Tryz.f74 []):=rfl
theorem c74_run (e:EOk E) (nr:NR E d) (ht:t.dep≤d+1) (ha:arOk t=true) (hi:2<t.kids.length) (hen:en.length+2*t.dep≤1000000) :
  Run m f dep b3 b4 b5 t oe en (fun h=>evL E 74 [.ptr (some (b3,0)),.ptr (some (b4,0)),.ptr (some (b5,0))] h) (gen d (kid t 2) en) (kid t 2).size (8*(kid t 2).size):=by
 intro h fv v F w S l b M X s1 s2 s3
 have hd:=dK hi
 obtain⟨h',fv',v',N',w',k,A⟩:=nr (kid t 2) en oe (by omega) (cQ ha hi) M X s1 s2 s3 (by omega)
 refine⟨h',fv',v',N',w',?_,A⟩
 have hty:=e.ty
 have hpl:=e.pl
 have hat:=cX (dG hi)
 have g3:=b.g3
 have g4:=b.g4
 have g5:=b.g5
 show evL E 74 _ h=_
 rw[bE E (e.no 74 (by simp)) (by rw[e.fn];kernel_rfl) body74 _ _ rfl]
 simp only[aC,sub,Tryz.f74]
 rw[bZ (kid t 2)]at k hat
 simp[EVT,aT,TYC,hty,hpl,g3,g4,g5,hat,k]
theorem body76:Tryz.f76.body=some (aC Tryz.f76 []):=rfl
theorem c76_run (e:EOk E) (nr:NR E d) (ht:t.dep≤d+1) (ha:arOk t=true) (hi:1<t.kids.length) (hen:en.length+2*t.dep≤1000000) :
  Run m f dep b3 b4 b5 t oe en (fun h=>evL E 76 [.ptr (some (b3,0)),.ptr (some (b4,0)),.ptr (some (b5,0))] h) (gen d (kid t 1) en) (kid t 1).size (8*(kid t 1).size):=by
 intro h fv v F w S l b M X s1 s2 s3
 have hd:=dK hi
 obtain⟨h',fv',v',N',w',k,A⟩:=nr (kid t 1) en oe (by omega) (cQ ha hi) M X s1 s2 s3 (by omega)
 refine⟨h',fv',v',N',w',?_,A⟩
 have hty:=e.ty
 have hpl:=e.pl
 have hat:=cX (dG hi)
 have g3:=b.g3
 have g4:=b.g4
 have g5:=b.g5
 show evL E 76 _ h=_
 rw[bE E (e.no 76 (by simp)) (by rw[e.fn];kernel_rfl) body76 _ _ rfl]
 simp only[aC,sub,Tryz.f76]
 rw[bZ (kid t 1)]at k hat
 simp[EVT,aT,TYC,hty,hpl,g3,g4,g5,hat,k]
theorem body77:Tryz.f77.body=some (aC Tryz.f77 []):=rfl
theorem c77_run (e:EOk E) (nr:NR E d) (ht:t.dep≤d+1) (ha:arOk t=true) (hi:0<t.kids.length) (hen:en.length+2*t.dep≤1000000) :
  Run m f dep b3 b4 b5 t oe en (fun h=>evL E 77 [.ptr (some (b3,0)),.ptr (some (b4,0)),.ptr (some (b5,0))] h) (fun S nf pos=>cI (gen d (kid t 0) en S nf pos) (gB ⟨15,0⟩) nf pos) ((kid t 0).size+0) (8*(kid t 0).size+1):=by
 intro h fv v F w S l b M X s1 s2 s3
 have hd:=dK hi
 obtain⟨h',fv',v',N',w',k,A⟩:=nr (kid t 0) en oe (by omega) (cQ ha hi) M X (by omega) (by omega) (by omega) (by omega)
 have hl:=cW d (kid t 0) en S F.length l.length (cQ ha hi)
 have b1:=b.step A.st
 obtain⟨h2,id2,k2,A2⟩:=fV e A.ms A.fs (by have:=hl.2.2;simp;omega) 15 0
 have AA:=A.then A2
 have hty:=e.ty
 have hpl:=e.pl
 have hat:=cX (dG hi)
 have g3:=b.g3
 have g4:=b.g4
 have g5:=b.g5
 have g3':=b1.g3
 have K:evL E 77 [.ptr (some (b3,0)),.ptr (some (b4,0)),.ptr (some (b5,0))] h=some (.tup [],h2):=by
  rw[bE E (e.no 77 (by simp)) (by rw[e.fn];kernel_rfl) body77 _ _ rfl]
  simp only[aC,sub,Tryz.f77]
  rw[bZ (kid t 0)]at k hat
  simp[EVT,aT,TYC,hty,hpl,g3,g4,g5,g3',hat,k,k2]
 simp only[cI,gB,List.append_nil]
 simp only[List.append_assoc]at AA
 exact⟨h2,_,_,_,_,K,AA⟩
theorem body78:Tryz.f78.body=some (aC Tryz.f78 []):=rfl
theorem c78_run (e:EOk E) (nr:NR E d) (ht:t.dep≤d+1) (ha:arOk t=true) (hi:1<t.kids.length) (hen:en.length+2*t.dep≤1000000) :
  Run m f dep b3 b4 b5 t oe en (fun h=>evL E 78 [.ptr (some (b3,0)),.ptr (some (b4,0)),.ptr (some (b5,0))] h) (genB (gen d) (kid t 1) t.name en) (kid t 1).size (8*(kid t 1).size+2):=by
 intro h fv v F w S l b M X s1 s2 s3
 have hd:=dK hi
 obtain⟨h',fv',v',N',w',k,A⟩:=bound_run e nr (kid t 1) t.name en oe (by omega) (cQ ha hi) M X s1 s2 (by omega) (by omega)
 refine⟨h',fv',v',N',w',?_,A⟩
 have hty:=e.ty
 have hpl:=e.pl
 have hat:=cX (dG hi)
 have g3:=b.g3
 have g4:=b.g4
 have g5:=b.g5
 show evL E 78 _ h=_
 rw[bE E (e.no 78 (by simp)) (by rw[e.fn];kernel_rfl) body78 _ _ rfl]
 simp only[aC,sub,Tryz.f78]
 rw[bZ (kid t 1)]at k hat
 simp[EVT,aT,TYC,hty,hpl,g3,g4,g5,hat,k]
theorem body75:Tryz.f75.body=some (aC Tryz.f75 []):=rfl
theorem c75_run (e:EOk E) (nr:NR E d) (ht:t.dep≤d+1) (ha:arOk t=true) (hi:2<t.kids.length) (hen:en.length+2*t.dep≤1000000) :
  Run m f dep b3 b4 b5 t oe en (fun h=>evL E 75 [.ptr (some (b3,0)),.ptr (some (b4,0)),.ptr (some (b5,0))] h) (fun S nf pos=>cI (cI (gen d (kid t 2) (⟨t.arg⟩::⟨t.name⟩::en) S nf pos) (gB ⟨7,0⟩) nf pos) (gB ⟨7,0⟩) nf pos) ((kid t 2).size+0+0) (8*(kid t 2).size+1+1):=by
 intro h fv v F w S l b M X s1 s2 s3
 have hd:=dK hi
 have hty:=e.ty
 have hpl:=e.pl
 obtain⟨h1,ow,k1,n1,g1⟩:=under_run (E:=E) hty hpl (e.no 70 (by simp)) (e.no 114 (by simp)) e.gr e.fn (oa := .full) (ob:=oe) (a:=[(⟨t.arg⟩:Str),⟨t.name⟩]) (b:=en) (by simp;omega) h
 have A0:=made_grow (m:=m) (f:=f) (dep:=dep) M X n1 g1
 have b0:=b.step A0.st
 obtain⟨h',fv',v',N',w',k,A⟩:=nr (kid t 2) (⟨t.arg⟩::⟨t.name⟩::en) ow (by omega) (cQ ha hi) A0.ms0 A0.fs (by omega) (by omega) (by omega) (by simp;omega)
 have hl:=cW d (kid t 2) (⟨t.arg⟩::⟨t.name⟩::en) S F.length l.length (cQ ha hi)
 have b1:=b0.step A.st
 obtain⟨h2,id2,k2,A2⟩:=fV e A.ms A.fs (by have:=hl.2.2;simp;omega) 7 0
 have b2:=b1.step A2.st
 have A12:=A.then A2
 obtain⟨h3,id3,k3,A3⟩:=fV e A12.ms A12.fs (by have:=hl.2.2;simp;omega) 7 0
 have AA:=A0.after (A12.then A3)
 have hat:=cX (dG hi)
 have g3:=b.g3
 have g4:=b.g4
 have g5:=b.g5
 have g30:=b0.g3
 have g40:=b0.g4
 have g50:=b0.g5
 have g31:=b1.g3
 have g32:=b2.g3
 have K:evL E 75 [.ptr (some (b3,0)),.ptr (some (b4,0)),.ptr (some (b5,0))] h=some (.tup [],h3):=by
  rw[bE E (e.no 75 (by simp)) (by rw[e.fn];kernel_rfl) body75 _ _ rfl]
  simp only[aC,sub,Tryz.f75]
  rw[bZ (kid t 2)]at k hat
  rw[show strs [(⟨t.arg⟩:Str),⟨t.name⟩]=[AV.str t.arg,AV.str t.name] from rfl]at k1
  simp[EVT,aT,TYC,hty,hpl,g3,g4,g5,g30,g40,g31,g32,hat,k1,k,k2,k3]
 simp only[cI,gB,List.append_nil]
 simp only[List.append_assoc]at AA ⊢
 exact⟨h3,_,_,_,_,K,AA⟩
end
end Go.Proofs.YtogjplcnmibnlaaGreatDoor.Env
namespace Go.Proofs.YtogjplcnmibnlaaGreatDoor.Env
open Go.Ev Go.Ev.Nd
section
variable {E:Env} {h:H} {m f:Nat} {dep:Int} {fv v:AV} {F:List AV} {w:Go.Ev.Own} {S:List Str} {l:List Ins} {t:Nd} {oe:Go.Ev.Own} {en:List Str} {d:Nat}
theorem tch_lt (M:MS h m dep fv F w S) (X:FS h m f v l) {j:Nat} (ht:Tch m f fv w v j):j<h.nx:=by
 rcases ht with h1|h1|h1|h1|h1
 ·exact M.nt (.inl h1)
 ·rw[h1];exact X.fx
 ·exact M.nt (.inr (.inr (.inl h1)))
 ·exact M.nt (.inr (.inr (.inr (.inl h1))))
 ·exact X.cr.lt h1
def box3 (h:H) (f:Nat) (t:Nd) (oe:Go.Ev.Own) (en:List Str):H:=⟨((h.t.set h.nx (.cells [.ptr (some (f,0))])).set (h.nx+1) (.cells [.str t.op,.str t.name,.str t.arg,.int .i64 t.n,.int .i64 t.at_,.sl .no (avs t.kids)])).set (h.nx+1+1) (.cells [.sl oe (strs en)]),h.nx+1+1+1⟩
theorem start42 (e:EOk E) (M:MS h m dep fv F w S) (X:FS h m f v l) (hl:l.length≤1000000) (hS:S.length≤1000000) (hen:en.length≤1000000) (oe:Go.Ev.Own) (t:Nd) :
  ∃ h2 w2 v2,evL E 69 [.ptr (some (f,0)),t.av,.sl oe (strs en)] (box3 h f t oe en)=some (.bool (dL t.op t.name t.n en S).isSome,h2) ∧
   fU m f dep h fv v F w (match dL t.op t.name t.n en S with|some (S',_)=>S'|none=>S) [] (match dL t.op t.name t.n en S with|some (_,i)=>l++[i]|none=>l) h2 fv v2 [] w2 ∧
   BX h2 h.nx (h.nx+1) (h.nx+1+1) f t oe en (Tch m f fv w2 v2):=by
 have gn:∀ j,j<h.nx→(box3 h f t oe en).t.get j=h.t.get j:=fun j hj=>by
  unfold box3
  simp only[T.aA]
  rw[if_neg (by omega),if_neg (by omega),if_neg (by omega)]
 have nb:h.nx≤(box3 h f t oe en).nx:=by unfold box3;simp only;omega
 have A0:=made_grow (m:=m) (f:=f) (dep:=dep) M X nb gn
 obtain⟨h2,w2,v2,k1,k2,k3,k4⟩:=leaf_run e.ty e.pl (e.no 69 (by simp)) (e.no 43 (by simp)) (e.no 113 (by simp)) (e.no 34 (by simp)) e.fn (M.grow nb gn) (X.grow nb gn) hl hS hen oe t
 have b0:BX (box3 h f t oe en) h.nx (h.nx+1) (h.nx+1+1) f t oe en (Tch m f fv w v):=by
  refine⟨?_,?_,?_,?_,?_⟩
  ·unfold box3;simp only[T.aA];rw[if_neg (by omega),if_neg (by omega),if_pos trivial]
  ·unfold box3;simp only[T.aA];rw[if_neg (by omega),if_pos trivial]
  ·unfold box3;simp only[T.aA];rw[if_pos trivial]
  ·unfold box3;simp only;omega
  ·exact⟨fun ht=>by have:=tch_lt M X ht;omega,fun ht=>by have:=tch_lt M X ht;omega,fun ht=>by have:=tch_lt M X ht;omega⟩
 exact⟨h2,w2,v2,k1,A0.after ⟨by rw[List.append_nil];exact k2,k3,.nil _ _ _,k4⟩,b0.step k4⟩
noncomputable def b42_0:Code:=aK Tryz.f42 0
theorem body42:Tryz.f42.body=some (.seq (aC Tryz.f42 [0]) (.seq (aC Tryz.f42 [1,0]) (.seq (aC Tryz.f42 [1,1,0]) (.block 0 (.seq (aC Tryz.f42 [1,1,1,0,0]) (.cond (condAt Tryz.f42 [1,1,1,0,1]) (aC Tryz.f42 [1,1,1,0,1,0]) (.seq (aC Tryz.f42 [1,1,1,0,1,1,0]) (.cond (condAt Tryz.f42 [1,1,1,0,1,1,1]) (aC Tryz.f42 [1,1,1,0,1,1,1,0]) (.seq (aC Tryz.f42 [1,1,1,0,1,1,1,1,0]) (.cond (condAt Tryz.f42 [1,1,1,0,1,1,1,1,1]) (aC Tryz.f42 [1,1,1,0,1,1,1,1,1,0]) (.seq (aC Tryz.f42 [1,1,1,0,1,1,1,1,1,1,0]) (.cond (condAt Tryz.f42 [1,1,1,0,1,1,1,1,1,1,1]) (aC Tryz.f42 [1,1,1,0,1,1,1,1,1,1,1,0]) (.seq (aC Tryz.f42 [1,1,1,0,1,1,1,1,1,1,1,1,0]) (.cond (condAt Tryz.f42 [1,1,1,0,1,1,1,1,1,1,1,1,1]) (aC Tryz.f42 [1,1,1,0,1,1,1,1,1,1,1,1,1,0]) (.seq (aC Tryz.f42 [1,1,1,0,1,1,1,1,1,1,1,1,1,1,0]) (.cond (condAt Tryz.f42 [1,1,1,0,1,1,1,1,1,1,1,1,1,1,1]) (aC Tryz.f42 [1,1,1,0,1,1,1,1,1,1,1,1,1,1,1,0]) (.seq (aC Tryz.f42 [1,1,1,0,1,1,1,1,1,1,1,1,1,1,1,1,0]) (.cond (condAt Tryz.f42 [1,1,1,0,1,1,1,1,1,1,1,1,1,1,1,1,1]) (aC Tryz.f42 [1,1,1,0,1,1,1,1,1,1,1,1,1,1,1,1,1,0]) (.seq (.seq (aC Tryz.f42 [1,1,1,0,1,1,1,1,1,1,1,1,1,1,1,1,1,1,0,0]) (.block 1 (.loop b42_0))) (aC Tryz.f42 [1,1,1,0,1,1,1,1,1,1,1,1,1,1,1,1,1,1,1])))))))))))))))))))):=rfl
theorem node_leaf (e:EOk E) (M:MS h m dep fv F w S) (X:FS h m f v l) (hl:l.length≤1000000) (hS:S.length≤1000000) (hen:en.length≤1000000) {S':List Str} {i:Ins} (hg:dL t.op t.name t.n en S=some (S',i)) :
  ∃ h' fv' v' N' w',evL E 42 [.ptr (some (f,0)),t.av,.sl oe (strs en)] h=some (.tup [],h')∧fU m f dep h fv v F w S' [] (l++[i]) h' fv' v' N' w':=by
 obtain⟨h2,w2,v2,k,A,b⟩:=start42 e M X hl hS hen oe t
 rw[hg]at A k
 refine⟨h2,fv,v2,[],w2,?_,A⟩
 have hty:=e.ty
 have hpl:=e.pl
 rw[bE E (e.no 42 (by simp)) (by rw[e.fn];kernel_rfl) body42 _ _ rfl]
 simp only[aC,sub,Tryz.f42]
 unfold box3 at k
 rw[bZ t]at k ⊢
 have z1:h.nx+1≠h.nx:=by omega
 have z2:h.nx≠h.nx+1:=by omega
 have z3:h.nx≠h.nx+1+1:=by omega
 have z4:h.nx+1≠h.nx+1+1:=by omega
 simp[EVT,aT,bC,aX,bA,bT,aL,aQ,bX,aV,AV.cells,aG,aZ,val,aH,H.new,setArgs,bQ,bS,TYC,hty,k,z3]
end
end Go.Proofs.YtogjplcnmibnlaaGreatDoor.Env
