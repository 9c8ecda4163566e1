/- A sign: the program's. -/
import Derived.Test.YtogjplcnmibnlaaGreatDoorCTLText
set_option autoImplicit false
set_option maxRecDepth 100000
set_option linter.unusedSimpArgs false
set_option linter.unusedVariables false
namespace Go.Proofs.YtogjplcnmibnlaaGreatDoor.Lx
open Go.Ev Go.Proofs.YtogjplcnmibnlaaGreatDoor.Env
attribute [local simp] bC aX bA bT aL aN aQ bX bF bW dE cD aV AV.cells aG aZ val aH bN bP cP bG eI aU aO aM bY bI recheck H.new H.put cT aY bB AV.one setArgs bQ bS bJ aR aP bK
theorem e5_41:dX.prim 149=some (aW p41):=by kernel_rfl
theorem e5_35:dX.prim 145=none:=by kernel_rfl
theorem f5_35:dX.fns 145=some Tryz.f145:=by kernel_rfl
theorem hasPrefix_run (s p:List Nat) (h:H) (k:Nat):cG dX (k+20) 145 [.str s,.str p] h=some (.bool (preF s p),h):=by
 have c:∀ k h,cG dX (k+1) 149 [.str s,.str p] h=some (.bool (preF s p),h):=fun k h=>by
  rw[evFn_prim e5_41];simp[aW,AV.fF,AV.pure,AV.dJ,AV.forget,p41]
 rw[cG]
 simp[e5_35,f5_35,Tryz.f145,aJ,fD,c]
theorem e5_34:dX.prim 144=some (aW (pK (.sl .full (fB.map .str)))):=by kernel_rfl
theorem signs_call (k:Nat) (h:H):cG dX (k+1) 144 [] h=some (.sl .full (fB.map .str),h):=by
 rw[evFn_prim e5_34];simp[aW,AV.fF,AV.dJ,pK]
theorem e5_22:dX.prim 138=none:=by kernel_rfl
theorem f5_22:dX.fns 138=some Tryz.f138:=by kernel_rfl
theorem t5_36:dX.ty 25=some { kind:=TK.sl 9,sz:=1,byt:=24,zero:=some (AV.sl Own.full []),ag:=false,eqf:=none }:=by kernel_rfl
def z4:List AV:=[.int .i64 0,.str [],.int .i64 0,.int .i64 0]
noncomputable def b22:Code:=aK Tryz.f138 0
structure R22 (s:List Nat) (a:Nat) (ws:List (List Nat)) (i:Nat) (tm:Tm):Prop where
 g0:tm.get 0=some (.str s)
 g1:tm.get 1=some (.int .i64 ↑a)
 g4:tm.get 4=some (.ptr (some (0,0)))
 g9:tm.get 9=some (.sl .full (ws.map .str))
 g10:tm.get 10=some (.int .i64 ↑ws.length)
 g11:tm.get 11=some (.int .i64 ↑i)
section
variable (K:Nat) (s:List Nat) (a:Nat) (ws:List (List Nat)) (i:Nat) (tm:Tm) (h:H) (k:Nat)
theorem miss22 (R:R22 s a ws i tm) (ha:a≤s.length) (hl:ws.length<4611686018427387904) (w:List Nat) (hw:ws[i]?=some w) (hne:preF (s.drop a) w=false) :
  ∃ tm',aJ (cG dX (K+20)) dX 138 27 (k+20) b22 tm h=some (.normal,tm',h)∧R22 s a ws (i+1) tm':=by
 obtain⟨h0,h1,h4,h9,h10,h11⟩:=R
 have hil:=aI hw
 have hw2:wr .i64 (↑i+1)=↑(i+1):=by have:=wr_nat (n:=i+1) (by omega);simpa using this
 have hlt':ltI ↑i ↑ws.length=true:=by rw[eN];simp[hil]
 have hc:=hasPrefix_run (s.drop a) w h K
 have htk:(s.drop a).take (s.length-a)=s.drop a:=List.take_of_length_le (by simp)
 rw[hne]at hc
 generalize hd:s.drop a=d at *
 generalize hm':i+1=m' at *
 have fin:∀ tm',R22 s a ws m' tm'↔(tm'.get 0=some (.str s)∧tm'.get 1=some (.int .i64 ↑a)∧tm'.get 4=some (.ptr (some (0,0)))∧tm'.get 9=some (.sl .full (ws.map .str))∧tm'.get 10=some (.int .i64 ↑ws.length)∧tm'.get 11=some (.int .i64 ↑m')):=
  fun tm'=>⟨fun r=>⟨r.g0,r.g1,r.g4,r.g9,r.g10,r.g11⟩,fun r=>⟨r.1,r.2.1,r.2.2.1,r.2.2.2.1,r.2.2.2.2.1,r.2.2.2.2.2⟩⟩
 simp only[b22,aK,Tryz.f138,loops,List.nil_append,List.append_nil]
 simp[aJ,fD,h0,h1,h4,h9,h10,h11,t5_9,t5_36,hw2,hlt',hw,hc,ha,hd,htk,fin]
theorem hit22 (R:R22 s a ws i tm) (ha:a≤s.length) (hl:ws.length<4611686018427387904) (w:List Nat) (hw:ws[i]?=some w) (heq:preF (s.drop a) w=true) (hz:h.t.get 0=some (.cells z4)) :
  ∃ tm',aJ (cG dX (K+20)) dX 138 27 (k+20) b22 tm h=some (.ret,tm',h.put 0 (.cells [.int .i64 4,.str w,.int .i64 0,.int .i64 ↑a]))∧tm'.get 4=some (.ptr (some (0,0)))∧tm'.get 5=some (.int .i64 ↑w.length)∧tm'.get 6=some (.bool true):=by
 obtain⟨h0,h1,h4,h9,h10,h11⟩:=R
 have hil:=aI hw
 have hlt':ltI ↑i ↑ws.length=true:=by rw[eN];simp[hil]
 have hc:=hasPrefix_run (s.drop a) w h K
 have htk:(s.drop a).take (s.length-a)=s.drop a:=List.take_of_length_le (by simp)
 rw[heq]at hc
 generalize hd:s.drop a=d at *
 simp only[b22,aK,Tryz.f138,loops,List.nil_append,List.append_nil]
 simp[aJ,fD,h0,h1,h4,h9,h10,h11,t5_9,t5_33,t5_36,hlt',hw,hc,ha,hd,htk,hz,z4]
theorem stop22 (R:R22 s a ws i tm) (hi:i=ws.length):∃ tm',aJ (cG dX (K+20)) dX 138 27 (k+20) b22 tm h=some (.exit 0,tm',h)∧tm'.get 4=some (.ptr (some (0,0))):=by
 obtain⟨h0,h1,h4,h9,h10,h11⟩:=R
 have hlt':ltI ↑i ↑ws.length=false:=by rw[eN];simp[hi]
 simp only[b22,aK,Tryz.f138,loops,List.nil_append,List.append_nil]
 simp[aJ,fD,h4,h10,h11,hlt']
end
def fQ (d:List Nat):List (List Nat)→Option (List Nat)
 | []=>none
 | w::l=>bif preF d w then some w else fQ d l
theorem loop22 (K:Nat) (s:List Nat) (a:Nat) (ws:List (List Nat)) (h:H) (ha:a≤s.length) (hl:ws.length<4611686018427387904) (hz:h.t.get 0=some (.cells z4)):∀ (l:List (List Nat)) (i:Nat) (tm:Tm) (k:Nat),l=ws.drop i→i≤ws.length→R22 s a ws i tm →
  ∃ tm',tm'.get 4=some (.ptr (some (0,0)))∧((∃ w,fQ (s.drop a) l=some w∧aJ (cG dX (K+20)) dX 138 27 (k+l.length+21) (.loop b22) tm h=some (.ret,tm',h.put 0 (.cells [.int .i64 4,.str w,.int .i64 0,.int .i64 ↑a]))∧tm'.get 5=some (.int .i64 ↑w.length)∧tm'.get 6=some (.bool true)) ∨
   (fQ (s.drop a) l=none∧aJ (cG dX (K+20)) dX 138 27 (k+l.length+21) (.loop b22) tm h=some (.exit 0,tm',h)))
 | [],i,tm,k,hd,hi,R=>by
  have hlen:i=ws.length:=by
   have:=congrArg List.length hd
   simp at this
   omega
  obtain⟨tm',h1,h2⟩:=stop22 K s a ws i tm h k R hlen
  refine⟨tm',h2,.inr ⟨rfl,?_⟩⟩
  rw[show k+([]:List (List Nat)).length+21=(k+20)+1 by simp,aJ,h1]
 | w::l,i,tm,k,hd,hi,R=>by
  have hc:ws[i]?=some w:=by
   have:(ws.drop i)[0]?=some w:=by rw[←hd];rfl
   simpa using this
  have hil:=aI hc
  have hd':l=ws.drop (i+1):=by
   have:=congrArg List.tail hd
   simpa[List.tail_drop]using this
  cases hb:preF (s.drop a) w with
  | true=>
   obtain⟨tm',h1,h2,h3,h4⟩:=hit22 K s a ws i tm h (k+l.length+1) R ha hl w hc hb hz
   refine⟨tm',h2,.inl ⟨w,by simp[fQ,hb],?_,h3,h4⟩⟩
   rw[show k+(w::l).length+21=(k+l.length+1+20)+1 by simp;omega,aJ,h1]
  | false=>
   obtain⟨tm1,h1,h2⟩:=miss22 K s a ws i tm h (k+l.length+1) R ha hl w hc hb
   obtain⟨tm',h3,h4⟩:=loop22 K s a ws h ha hl hz l (i+1) tm1 k hd' (by omega) h2
   have hstep:aJ (cG dX (K+20)) dX 138 27 (k+(w::l).length+21) (.loop b22) tm h=aJ (cG dX (K+20)) dX 138 27 (k+l.length+21) (.loop b22) tm1 h:=by
    rw[show k+(w::l).length+21=(k+l.length+1+20)+1 by simp;omega,aJ,h1]
   refine⟨tm',h3,?_⟩
   rw[hstep]
   simpa[fQ,hb]using h4
theorem body22:Tryz.f138.body=some (.seq (aC Tryz.f138 [0]) (.seq (.seq (aC Tryz.f138 [1,0,0]) (.block 0 (.loop b22))) (aC Tryz.f138 [1,1]))):=rfl
def signRes (s:List Nat) (a:Nat):AV:=match fQ (s.drop a) fB with
 | some w => .tup [fJ 4 w 0 ↑a,.int .i64 ↑w.length,.bool true]
 | none => .tup [fJ 0 [] 0 0,.int .i64 0,.bool false]
theorem sign_run (s:List Nat) (a:Nat) (ha:a≤s.length):∃ h1,cG dX 100 138 [.str s,.int .i64 ↑a] ⟨.e,0⟩=some (signRes s a,h1):=by
 have hl:fB.length<4611686018427387904:=by decide
 rw[show(100:Nat)=99+1 by rfl,cG]
 simp only[e5_22,f5_22,body22]
 have hk:(99:Nat)=((((57+fB.length+21)+1)+1)+1)+1:=by rfl
 have h1:∃ tm1 h1,aJ (cG dX (79+20)) dX 138 27 (((((57+fB.length+21)+1)+1)+1)) (aC Tryz.f138 [0]) (setArgs 0 [.str s,.int .i64 ↑a] .e) ⟨.e,0⟩=some (.normal,tm1,h1) ∧
   tm1.get 0=some (.str s)∧tm1.get 1=some (.int .i64 ↑a)∧tm1.get 4=some (.ptr (some (0,0)))∧h1.t.get 0=some (.cells z4):=by
  simp only[aC,sub,Tryz.f138]
  simp[aJ,fD,t5_33,z4]
  refine⟨_,_,⟨rfl,rfl⟩,?_⟩
  simp[T.aA]
 obtain⟨tm1,hp1,h1,i0,i1,i4,iz⟩:=h1
 have h2:∃ tm2,aJ (cG dX (79+20)) dX 138 27 ((((57+fB.length+21)+1))) (aC Tryz.f138 [1,0,0]) tm1 hp1=some (.normal,tm2,hp1)∧R22 s a fB 0 tm2:=by
  have fin:∀ tm',R22 s a fB 0 tm'↔(tm'.get 0=some (.str s)∧tm'.get 1=some (.int .i64 ↑a)∧tm'.get 4=some (.ptr (some (0,0)))∧tm'.get 9=some (.sl .full (fB.map .str))∧tm'.get 10=some (.int .i64 ↑fB.length)∧tm'.get 11=some (.int .i64 0)):=
   fun tm'=>⟨fun r=>⟨r.g0,r.g1,r.g4,r.g9,r.g10,r.g11⟩,fun r=>⟨r.1,r.2.1,r.2.2.1,r.2.2.2.1,r.2.2.2.2.1,r.2.2.2.2.2⟩⟩
  simp only[aC,sub,Tryz.f138]
  simp[aJ,fD,i0,i1,i4,t5_36,signs_call,fin]
 obtain⟨tm2,h2,R⟩:=h2
 have hn:Tryz.f138.ntmps=27:=rfl
 have hres:Tryz.f138.results = #[.cell 4 71,.tmp 5,.tmp 6]:=rfl
 obtain⟨tm3,g4,h3⟩:=loop22 79 s a fB hp1 ha hl iz fB 0 tm2 57 (by simp) (Nat.zero_le _) R
 rcases h3 with ⟨w,hw,h3,g5,g6⟩|⟨hw,h3⟩
 ·have hall:=run_seq h1 (run_seq1 (b:=aC Tryz.f138 [1,1]) (run_seq h2 (run_ret2 (id:=0) h3)))
  rw[←hk]at hall
  simp only[show(79+20:Nat)=99 by rfl]at hall
  simp only[hn,hall,hres,List.length_cons,List.length_nil]
  simp[fD,g4,g5,g6,t5_33,signRes,hw,fJ]
 ·have h4:∃ tm4 h4,aJ (cG dX (79+20)) dX 138 27 ((((57+fB.length+21)+1)+1)) (aC Tryz.f138 [1,1]) tm3 hp1=some (.ret,tm4,h4)∧tm4.get 4=some (.ptr (some (0,0)))∧tm4.get 5=some (.int .i64 0)∧tm4.get 6=some (.bool false)∧h4.t.get 0=some (.cells z4):=by
   simp only[aC,sub,Tryz.f138]
   simp[aJ,fD,g4,iz,t5_33,z4]
   refine⟨_,_,⟨rfl,rfl⟩,?_⟩
   simp[T.aA,g4]
  obtain⟨tm4,hp4,h4,j4,g5,g6,jz⟩:=h4
  have hall:=run_seq h1 (run_seq (run_seq h2 (run_exit h3)) h4)
  rw[←hk]at hall
  simp only[show(79+20:Nat)=99 by rfl]at hall
  simp only[hn,hall,hres,List.length_cons,List.length_nil]
  simp[fD,j4,g5,g6,jz,z4,t5_33,signRes,hw,fJ]
end Go.Proofs.YtogjplcnmibnlaaGreatDoor.Lx
namespace Go.Proofs.YtogjplcnmibnlaaGreatDoor.Lx
open Go.Ev Go.Proofs.YtogjplcnmibnlaaGreatDoor.Env
theorem e5_20:dX.prim 136=none:=by kernel_rfl
theorem f5_20:dX.fns 136=some Tryz.f136:=by kernel_rfl
theorem t5_31:dX.ty 162=some { kind:=TK.sl 5,sz:=1,byt:=24,zero:=some (AV.sl Own.full []),ag:=false,eqf:=none }:=by kernel_rfl
theorem t5_5:dX.ty 5=some { kind:=TK.int .u8,sz:=1,byt:=1,zero:=some (AV.int .u8 0),ag:=false,eqf:=none }:=by kernel_rfl
theorem t5_2:dX.ty 2=some { kind:=TK.int .i64,sz:=1,byt:=8,zero:=some (AV.int .i64 0),ag:=false,eqf:=none }:=by kernel_rfl
theorem isub (a b:Int):Int.sub a b=a-b:=rfl
def stepF (v:Int) (c:Nat):Int:=wr .i64 (wr .i64 (v*10)+wr .i64 (wr .u8 (↑c-48)))
def numF:List Nat→Int→Int
 | [],v=>v
 | c::l,v=>numF l (stepF v c)
noncomputable def b20:Code:=aK Tryz.f136 0
def tokC (v:Int) (a:Nat):List AV:=[.int .i64 2,.str [],.int .i64 v,.int .i64 ↑a]
structure R20 (n:Nat) (t:List Nat) (i:Nat) (tm:Tm):Prop where
 g4:tm.get 4=some (.ptr (some (0,0)))
 g7:tm.get 7=some (.int .i64 ↑n)
 g8:tm.get 8=some (.ptr (some (1,0)))
 g36:tm.get 36=some (.sl .no (t.map fun n => .int .u8 (Int.ofNat n)))
 g37:tm.get 37=some (.int .i64 ↑t.length)
 g38:tm.get 38=some (.int .i64 ↑i)
section
variable (call:fO) (a n:Nat) (t:List Nat) (i:Nat) (tm:Tm) (h:H) (k:Nat) (v:Int)
theorem round20 (R:R20 n t i tm) (hl:t.length<4611686018427387904) (c:Nat) (hc:t[i]?=some c) (hz:h.t.get 1=some (.cells (tokC v a))) :
  ∃ tm',aJ call dX 136 53 (k+20) b20 tm h=some (.normal,tm',h.put 1 (.cells (tokC (stepF v c) a)))∧R20 n t (i+1) tm':=by
 obtain⟨h4,h7,h8,h36,h37,h38⟩:=R
 have hil:=aI hc
 have hw2:wr .i64 (↑i+1)=↑(i+1):=by have:=wr_nat (n:=i+1) (by omega);simpa using this
 have hlt':ltI ↑i ↑t.length=true:=by rw[eN];simp[hil]
 generalize hm':i+1=m' at *
 have fin:∀ tm',R20 n t m' tm'↔(tm'.get 4=some (.ptr (some (0,0)))∧tm'.get 7=some (.int .i64 ↑n)∧tm'.get 8=some (.ptr (some (1,0)))∧tm'.get 36=some (.sl .no (t.map fun n => .int .u8 (Int.ofNat n)))∧tm'.get 37=some (.int .i64 ↑t.length)∧tm'.get 38=some (.int .i64 ↑m')):=
  fun tm'=>⟨fun r=>⟨r.g4,r.g7,r.g8,r.g36,r.g37,r.g38⟩,fun r=>⟨r.1,r.2.1,r.2.2.1,r.2.2.2.1,r.2.2.2.2.1,r.2.2.2.2.2⟩⟩
 simp only[b20,aK,Tryz.f136,loops,List.nil_append,List.append_nil]
 simp[aJ,fD,bC,aX,bA,bT,aL,aN,aQ,bF,aV,AV.cells,aG,aZ,val,bN,bP,aU,H.put,aY,bB,AV.one,bJ,aR,aP,bK,h4,h7,h8,h36,h37,h38,t5_5,t5_2,t5_31,t5_33,hw2,hlt',hc,hz,tokC,stepF,isub,fin]
theorem stop20 (R:R20 n t i tm) (hi:i=t.length):∃ tm',aJ call dX 136 53 (k+20) b20 tm h=some (.exit 0,tm',h)∧R20 n t i tm':=by
 obtain⟨h4,h7,h8,h36,h37,h38⟩:=R
 have hlt':ltI ↑i ↑t.length=false:=by rw[eN];simp[hi]
 have fin:∀ tm',R20 n t i tm'↔(tm'.get 4=some (.ptr (some (0,0)))∧tm'.get 7=some (.int .i64 ↑n)∧tm'.get 8=some (.ptr (some (1,0)))∧tm'.get 36=some (.sl .no (t.map fun n => .int .u8 (Int.ofNat n)))∧tm'.get 37=some (.int .i64 ↑t.length)∧tm'.get 38=some (.int .i64 ↑i)):=
  fun tm'=>⟨fun r=>⟨r.g4,r.g7,r.g8,r.g36,r.g37,r.g38⟩,fun r=>⟨r.1,r.2.1,r.2.2.1,r.2.2.2.1,r.2.2.2.2.1,r.2.2.2.2.2⟩⟩
 simp only[b20,aK,Tryz.f136,loops,List.nil_append,List.append_nil]
 simp[aJ,fD,bC,aX,bA,bT,aL,aN,aG,aZ,val,bN,bP,aU,aP,bK,h4,h7,h8,h36,h37,h38,hlt',fin]
end
theorem put_get (h:H) (i:Nat) (o:Ev.Obj) (j:Nat):(h.put i o).t.get j=if j=i then some o else h.t.get j:=T.aA _ _ _ _
theorem loop20 (call:fO) (a n:Nat) (t:List Nat) (hl:t.length<4611686018427387904) (o0:Option Ev.Obj):∀ (l:List Nat) (i:Nat) (tm:Tm) (k:Nat) (h:H) (v:Int),l=t.drop i→i≤t.length→R20 n t i tm→h.t.get 1=some (.cells (tokC v a))→h.t.get 0=o0 →
  ∃ tm' h' j,aJ call dX 136 53 (k+l.length+21) (.loop b20) tm h=some (.exit 0,tm',h')∧R20 n t j tm'∧h'.t.get 1=some (.cells (tokC (numF l v) a))∧h'.t.get 0=o0
 | [],i,tm,k,h,v,hd,hi,R,hz,h0=>by
  have hlen:i=t.length:=by
   have:=congrArg List.length hd
   simp at this
   omega
  obtain⟨tm',h1,h2⟩:=stop20 call n t i tm h k R hlen
  refine⟨tm',h,i,?_,h2,hz,h0⟩
  rw[show k+([]:List Nat).length+21=(k+20)+1 by simp,aJ,h1]
 | c::l,i,tm,k,h,v,hd,hi,R,hz,h0=>by
  have hc:t[i]?=some c:=by
   have:(t.drop i)[0]?=some c:=by rw[←hd];rfl
   simpa using this
  have hil:=aI hc
  have hd':l=t.drop (i+1):=by
   have:=congrArg List.tail hd
   simpa[List.tail_drop]using this
  obtain⟨tm1,h1,h2⟩:=round20 call a n t i tm h (k+l.length+1) v R hl c hc hz
  obtain⟨tm',h',j,h3,h4,h5,h6⟩:=loop20 call a n t hl o0 l (i+1) tm1 k (h.put 1 (.cells (tokC (stepF v c) a))) (stepF v c) hd' (by omega) h2 (by simp[put_get]) (by simp[put_get,h0])
  refine⟨tm',h',j,?_,h4,h5,h6⟩
  rw[←h3,show k+(c::l).length+21=(k+l.length+1+20)+1 by simp;omega,aJ,h1]
theorem body20:Tryz.f136.body=some (.seq (aC Tryz.f136 [0]) (.seq (aC Tryz.f136 [1,0]) (.seq (aC Tryz.f136 [1,1,0]) (.seq (aC Tryz.f136 [1,1,1,0])
  (.seq (.seq (aC Tryz.f136 [1,1,1,1,0,0]) (.block 0 (.loop b20))) (aC Tryz.f136 [1,1,1,1,1])))))):=rfl
def numBad (s:List Nat) (a n:Nat):Bool:=ltI 18 ↑n||(ltI 1 ↑n&&(match s[a]? with|some c=>aE ↑c 48|none=>false))
def numRes (s:List Nat) (a:Nat):AV:=bif numBad s a (cnt cV (s.drop a))then .tup [fJ 2 [] 0 ↑a,.int .i64 ↑(cnt cV (s.drop a)),.bool false]
 else .tup [fJ 2 [] (numF ((s.drop a).take (cnt cV (s.drop a))) 0) ↑a,.int .i64 ↑(cnt cV (s.drop a)),.bool true]
theorem number_run (s:List Nat) (a:Nat) (hl:s.length<140737488355328) (ha:a<s.length):∃ K h1,cG dX K 136 [.str s,.int .i64 ↑a] ⟨.e,0⟩=some (numRes s a,h1):=by
 have c1:∀ k h,cG dX (k+1) 140 [.str s,.int .i64 ↑a,.fn 135 [] []] h=some (.int .i64 ↑(cnt cV (s.drop a)),h):=fun k h=>run_call k h s a 135 rfl (by omega) (by omega)
 have hn:=cnt_le cV (s.drop a)
 rw[List.length_drop]at hn
 unfold numRes
 generalize cnt cV (s.drop a)=n at *
 have hw:wr .i64 (↑a+↑n)=↑(a+n):=by have:=wr_nat (n:=a+n) (by omega);simpa using this
 have hle:a+n≤s.length:=by omega
 obtain⟨c,hc⟩:∃ c,s[a]?=some c:=⟨_,List.getElem?_eq_getElem ha⟩
 generalize hm:a+n=m at *
 have hmn:m-a=n:=by omega
 have ham:a≤m:=by omega
 have htl:((s.drop a).take n).length≤140737488355328:=by simp;omega
 generalize ht:(s.drop a).take n=t at *
 refine⟨(((((((30+t.length+21)+1)+1)+1)+1)+1)+1)+1,?_⟩
 rw[cG]
 simp only[e5_20,f5_20,body20]
 have hn0:Tryz.f136.ntmps=53:=rfl
 have hres:Tryz.f136.results = #[.cell 4 71,.tmp 5,.tmp 6]:=rfl
 generalize hK:((((((30+t.length+21)+1)+1)+1)+1)+1)+1=K
 have hK1:∃ K',K=K'+1:=⟨_,hK.symm⟩
 obtain⟨K',hK'⟩:=hK1
 have h1:∃ tm1 p1,aJ (cG dX K) dX 136 53 ((((((30+t.length+21)+1)+1)+1)+1)+1) (aC Tryz.f136 [0]) (setArgs 0 [.str s,.int .i64 ↑a] .e) ⟨.e,0⟩=some (.normal,tm1,p1) ∧
   tm1.get 0=some (.str s)∧tm1.get 1=some (.int .i64 ↑a)∧tm1.get 4=some (.ptr (some (0,0)))∧p1.t.get 0=some (.cells z4)∧p1.nx=1:=by
  simp only[aC,sub,Tryz.f136]
  simp[aJ,fD,bC,aX,bA,bT,aL,aN,bX,AV.cells,aG,aZ,val,H.new,setArgs,bJ,aR,t5_33,z4]
  refine⟨_,_,⟨rfl,rfl⟩,?_⟩
  simp[T.aA]
 obtain⟨tm1,p1,h1,i0,i1,i4,iz,inx⟩:=h1
 have h2:∃ tm2,aJ (cG dX K) dX 136 53 (((((30+t.length+21)+1)+1)+1)+1) (aC Tryz.f136 [1,0]) tm1 p1=some (.normal,tm2,p1) ∧
   tm2.get 0=some (.str s)∧tm2.get 1=some (.int .i64 ↑a)∧tm2.get 4=some (.ptr (some (0,0)))∧tm2.get 7=some (.int .i64 ↑n):=by
  subst hK'
  simp only[aC,sub,Tryz.f136]
  simp[aJ,fD,bC,aX,bA,bT,aL,aN,aG,aZ,val,aH,i0,i1,i4,c1]
 obtain⟨tm2,h2,j0,j1,j4,j7⟩:=h2
 have h3:∃ tm3 p3,aJ (cG dX K) dX 136 53 ((((30+t.length+21)+1)+1)+1) (aC Tryz.f136 [1,1,0]) tm2 p1=some (.normal,tm3,p3) ∧
   tm3.get 0=some (.str s)∧tm3.get 1=some (.int .i64 ↑a)∧tm3.get 4=some (.ptr (some (0,0)))∧tm3.get 7=some (.int .i64 ↑n)∧tm3.get 8=some (.ptr (some (1,0)))∧p3.t.get 0=some (.cells z4)∧p3.t.get 1=some (.cells (tokC 0 a)):=by
  simp only[aC,sub,Tryz.f136]
  simp[aJ,fD,bC,aX,bA,bT,aL,aN,bX,bF,AV.cells,aG,aZ,val,aH,H.new,H.put,cT,aY,bB,AV.one,bJ,aR,j1,inx,t5_33,tokC,z4]
  refine⟨_,_,⟨rfl,rfl⟩,?_⟩
  simp[T.aA,j0,j1,j4,j7,iz,z4]
 obtain⟨tm3,p3,h3,k0,k1,k4,k7,k8,kz0,kz1⟩:=h3
 cases hb:numBad s a n with
 | true=>
  have h4:∃ tm4 p4,aJ (cG dX K) dX 136 53 (((30+t.length+21)+1)+1) (aC Tryz.f136 [1,1,1,0]) tm3 p3=some (.ret,tm4,p4)∧tm4.get 4=some (.ptr (some (0,0)))∧tm4.get 5=some (.int .i64 ↑n)∧tm4.get 6=some (.bool false)∧p4.t.get 0=some (.cells (tokC 0 a)):=by
   simp only[numBad,hc]at hb
   simp only[aC,sub,Tryz.f136]
   cases e1:ltI 18 ↑n<;>cases e2:ltI 1 ↑n<;>cases e3:aE ↑c 48<;>simp[e1,e2,e3]at hb <;>
    (simp[aJ,fD,bC,aX,bA,bT,aL,aN,aQ,bF,aV,AV.cells,aG,aZ,val,bN,bP,aU,H.put,aY,bB,AV.one,bJ,aR,aP,bK,k0,k1,k4,k7,k8,kz0,kz1,t5_33,t5_9,e1,e2,e3,hc,tokC,z4]
     refine⟨_,_,⟨rfl,rfl⟩,?_⟩
     simp[T.aA,k4])
  obtain⟨tm4,p4,h4,l4,l5,l6,lz⟩:=h4
  have hall:=run_seq h1 (run_seq h2 (run_seq h3 (run_seq1 (b := .seq (.seq (aC Tryz.f136 [1,1,1,1,0,0]) (.block 0 (.loop b20))) (aC Tryz.f136 [1,1,1,1,1])) h4)))
  rw[hK]at hall
  simp only[hn0,hall,hres,List.length_cons,List.length_nil]
  simp[fD,bT,aL,aQ,aV,val,bQ,bS,l4,l5,l6,lz,t5_33,tokC,fJ]
 | false=>
  have h4:∃ tm4,aJ (cG dX K) dX 136 53 (((30+t.length+21)+1)+1) (aC Tryz.f136 [1,1,1,0]) tm3 p3=some (.normal,tm4,p3)∧tm4.get 0=some (.str s)∧tm4.get 1=some (.int .i64 ↑a)∧tm4.get 4=some (.ptr (some (0,0)))∧tm4.get 7=some (.int .i64 ↑n)∧tm4.get 8=some (.ptr (some (1,0))):=by
   simp only[numBad,hc]at hb
   simp only[aC,sub,Tryz.f136]
   cases e1:ltI 18 ↑n<;>cases e2:ltI 1 ↑n<;>cases e3:aE ↑c 48<;>simp[e1,e2,e3]at hb <;>
    simp[aJ,fD,bC,aX,bA,bT,aL,aN,aQ,bF,aV,AV.cells,aG,aZ,val,bN,bP,aU,H.put,aY,bB,AV.one,bJ,aR,aP,bK,k0,k1,k4,k7,k8,kz0,kz1,t5_33,t5_9,e1,e2,e3,hc,tokC,z4]
  obtain⟨tm4,h4,l0,l1,l4,l7,l8⟩:=h4
  have h5:∃ tm5,aJ (cG dX K) dX 136 53 ((29+t.length+21)+1) (aC Tryz.f136 [1,1,1,1,0,0]) tm4 p3=some (.normal,tm5,p3)∧R20 n t 0 tm5:=by
   have fin:∀ tm',R20 n t 0 tm'↔(tm'.get 4=some (.ptr (some (0,0)))∧tm'.get 7=some (.int .i64 ↑n)∧tm'.get 8=some (.ptr (some (1,0)))∧tm'.get 36=some (.sl .no (t.map fun n => .int .u8 (Int.ofNat n)))∧tm'.get 37=some (.int .i64 ↑t.length)∧tm'.get 38=some (.int .i64 0)):=
    fun tm'=>⟨fun r=>⟨r.g4,r.g7,r.g8,r.g36,r.g37,r.g38⟩,fun r=>⟨r.1,r.2.1,r.2.2.1,r.2.2.2.1,r.2.2.2.2.1,r.2.2.2.2.2⟩⟩
   simp only[aC,sub,Tryz.f136]
   simp[aJ,fD,bC,aX,bA,bT,aL,aN,aQ,bW,dE,cD,aG,aZ,val,aH,bN,bP,aU,bJ,aR,aP,bK,l0,l1,l4,l7,l8,hw,ham,hle,hmn,ht,htl,t5_31,t5_5,t5_9,fin]
  obtain⟨tm5,h5,R⟩:=h5
  obtain⟨tm6,p6,j,h6,R6,z1,z0⟩:=loop20 (cG dX K) a n t (by omega) (some (.cells z4)) t 0 tm5 29 p3 0 (by simp) (Nat.zero_le _) R kz1 kz0
  obtain⟨r4,r7,r8,_,_,_⟩:=R6
  have h7:∃ tm7 p7,aJ (cG dX K) dX 136 53 (((29+t.length+21)+1)+1) (aC Tryz.f136 [1,1,1,1,1]) tm6 p6=some (.ret,tm7,p7)∧tm7.get 4=some (.ptr (some (0,0)))∧tm7.get 5=some (.int .i64 ↑n)∧tm7.get 6=some (.bool true)∧p7.t.get 0=some (.cells (tokC (numF t 0) a)):=by
   simp only[aC,sub,Tryz.f136]
   simp[aJ,fD,bC,aX,bA,bT,aL,aN,aQ,bF,aV,AV.cells,aG,aZ,val,H.put,aY,bB,AV.one,bJ,aR,r4,r7,r8,z1,z0,t5_33,tokC,z4]
   refine⟨_,_,⟨rfl,rfl⟩,?_⟩
   simp[T.aA,r4]
  obtain⟨tm7,p7,h7,q4,q5,q6,qz⟩:=h7
  have h45:aJ (cG dX K) dX 136 53 (((29+t.length+21)+1)+1) (.seq (aC Tryz.f136 [1,1,1,1,0,0]) (.block 0 (.loop b20))) tm4 p3=some (.normal,tm6,p6):=run_seq h5 (run_exit h6)
  have h47:=run_seq h45 h7
  rw[show 29+t.length+21+1+1+1=(30+t.length+21)+1+1 by omega]at h47
  have hall:=run_seq h1 (run_seq h2 (run_seq h3 (run_seq h4 h47)))
  rw[hK]at hall
  simp only[hn0,hall,hres,List.length_cons,List.length_nil]
  simp[fD,bT,aL,aQ,aV,val,bQ,bS,q4,q5,q6,qz,t5_33,tokC,fJ]
end Go.Proofs.YtogjplcnmibnlaaGreatDoor.Lx
