/- A row of one's own, sorted and compacted by the library, out of the contracts of the two. -/
import Derived.Test.YtogjplcnmibnlaaGreatDoorEwD
import Derived.Sort.Grow
import Derived.Lib.OwnBridge
import Derived.Lib.SlicesCompact
set_option autoImplicit false
set_option linter.unusedSectionVars false
set_option linter.unusedVariables false
set_option linter.unusedSimpArgs false
namespace Go.Ev
variable [MT]
open Go.Sort Go.Lib
section
variable {α:Type} [Inhabited α] [DecidableEq α]
structure SortC (P:Program) (enc:α→Value) (srt:List α→List α) (f:Nat):Prop where
 fn:∃ fn,P.funcs[f]?=some fn∧(fn.name == "runtime.NumGoroutine")=false∧fn.body.isNone=false
 len:∀ zs,(srt zs).length=zs.length
 nil:srt []=[]
 row:∀ (g cap:Nat) (zs:List α) (w:World),Holds enc w g 0 zs.toArray→g<w.heap.size→zs.length<4611686018427387904 →
  Calls P f #[.slice (some ⟨g,0,none⟩) zs.length cap] w fun e w'=>e = .returned (.tuple #[])∧∃ n os,w'=grow (putRow enc (Sort.ahead w n) g 0 (srt zs).toArray) os
 none:∀ (p:Option Addr) (cap:Nat) (w:World),Calls P f #[.slice p 0 cap] w fun e w'=>e = .returned (.tuple #[])∧w'=w
structure CompC (P:Program) (enc:α→Value) (d:α) (f:Nat):Prop where
 fn:∃ fn,P.funcs[f]?=some fn∧(fn.name == "runtime.NumGoroutine")=false∧fn.body.isNone=false
 row:∀ (g cap:Nat) (zs:List α) (w:World),Holds enc w g 0 zs.toArray→zs.length≤9223372036854775807→zs.length≤cap →
  Calls P f #[.slice (some ⟨g,0,none⟩) zs.length cap] w fun e w'=>e = .returned (.slice (some ⟨g,0,none⟩) (Lib.compact zs).length cap) ∧
   ∃ q,w'=putRow enc (Sort.ahead w q) g 0 (Lib.compact zs++List.replicate (zs.length-(Lib.compact zs).length) d).toArray
 none:∀ (p:Option Addr) (cap:Nat) (w:World),Calls P f #[.slice p 0 cap] w fun e w'=>e = .returned (.slice p 0 cap)∧w'=w
theorem heap_sorted' {enc:α→Value} {w:World} {g n:Nat} {os:Array Go.Obj} {cur:Array Value} {e:TypeId} {fr:Nat × Nat} (d:Array α) (hb:w.heap[g]?=some (.cells cur e fr)) :
  (grow (putRow enc (Sort.ahead w n) g 0 d) os).heap[g]?=some (.cells (putCells enc 0 d cur) e fr):=by
 have hg:g<w.heap.size:=(Array.getElem?_eq_some_iff.1 hb).1
 rw[heap_grow_old _ _ (by simpa using hg)]
 simp[putRow,mapBlock,Sort.ahead,Array.getElem?_modify,hb,onCells]
theorem grownBy_sorted' {enc:α→Value} {w:World} {g n:Nat} {os:Array Go.Obj} (d:Array α):w.grownBy (grow (putRow enc (Sort.ahead w n) g 0 d) os) (some g):=by
 refine⟨rfl,rfl,rfl,by simp,fun k hk hne => ?_⟩
 rw[heap_grow_old _ _ (by simpa using hk)]
 have:g≠k:=fun e=>hne (by rw[e])
 simp[putRow,mapBlock,Sort.ahead,Array.getElem?_modify,this]
theorem take_putCells' {enc:α→Value} (cur:Array Value) (ts:List α) (h:ts.length≤cur.size):(putCells enc 0 ts.toArray cur).toList.take ts.length=ts.map enc:=by
 apply List.ext_getElem?
 intro j
 by_cases hj:j<ts.length
 ·rw[List.getElem?_take_of_lt hj,Array.getElem?_toList]
  simp[putCells,hj,show j<cur.size by omega]
 ·rw[List.getElem?_take_eq_none (by omega),List.getElem?_eq_none (by simp;omega)]
theorem ownsRow_sorted' {enc:α→Value} {w:World} {base g cap n:Nat} {e:TypeId} {os:Array Go.Obj} {cur:Array Value} {ss ts:List α} (hl:ts.length=ss.length) (hbase:base≤g) (hb:w.heap[g]?=some (.cells cur e (0,0)))
  (h1:ss.length≤cap) (h2:cap≤maxLen) (h3:cur.size=cap*1) :
  (grow (putRow enc (Sort.ahead w n) g 0 ts.toArray) os).ownsRow base e 1 (.slice (some ⟨g,0,none⟩) ss.length cap) ss.length (ts.map enc):=
 ⟨by simp[hl],.inr ⟨g,cap,_,rfl,hbase,heap_sorted' _ hb,h1,h2,by simp[putCells,h3],by rw[Nat.mul_one,←hl];exact take_putCells' cur ts (by omega)⟩⟩
end
section
variable [Inhabited KA0]
theorem VR_ownsRow {α:Type} [Inhabited α] {enc:α→Value} {av:α→AV} (hav:∀ G w x,VR G w (enc x) (av x)) (hone:∀ x,(av x).cells=[av x]) {G:Gh} {w:World} {base:Nat} {e:TypeId} {g cap:Nat} {zs:List α} (hf:∀ b,base≤b→G.fr b=none)
  (h:w.ownsRow base e 1 (.slice (some ⟨g,0,none⟩) zs.length cap) zs.length (zs.map enc)):VR G w (.slice (some ⟨g,0,none⟩) zs.length cap) (.sl .no (zs.map av)):=by
 rcases h.2 with ⟨e0,_⟩|⟨g',cap',cur,e0,hb,hg,hn,hm,hs,ht⟩
 ·cases e0
 ·injection e0 with e1 _ e3
  injection e1 with e1
  injection e1 with e1
  subst e1 e3
  refine .sl g 0 zs.length cap 1 .no _ (fun i _=>enc zs[i]!) (by simp) hn (fun x hx => ?_) (fun i j hi hj=>⟨?_,.inl (hf g hb)⟩) (fun i j x y hx hy => ?_) trivial
  ·obtain⟨z,_,rfl⟩:=List.mem_map.1 hx
   rw[hone];rfl
  ·obtain rfl:j=0:=by omega
   have e2:(cur.toList.take (zs.length*1))[i]?=(zs.map enc)[i]?:=by rw[ht]
   rw[List.getElem?_take,if_pos (by omega),Array.getElem?_toList,List.getElem?_map,List.getElem?_eq_getElem (by omega)]at e2
   simp only[World.cell?,hg,Nat.zero_add]
   simp only[Option.isSome_none,Bool.false_eq_true,if_false,Nat.mul_one,Nat.add_zero]
   rw[e2,getElem!_pos zs i hi]
   rfl
  ·rw[List.getElem?_map]at hx
   cases hz:zs[i]? with
   | none=>rw[hz]at hx;cases hx
   | some z=>
    rw[hz]at hx
    simp only[Option.map_some,Option.some.injEq]at hx
    subst hx
    rw[hone]at hy
    cases j with
    | succ j=>simp at hy
    | zero=>
     simp only[List.getElem?_cons_zero,Option.some.injEq]at hy
     subst hy
     obtain⟨hi,e2⟩:=List.getElem?_eq_some_iff.1 hz
     show VR G w (enc zs[i]!) (av z)
     rw[getElem!_pos zs i hi,e2]
     exact hav G w z
variable {P:Program} {α:Type} [Inhabited α] [DecidableEq α] {enc:α→Value} {srt:List α→List α} {d:α} {fS fC:Nat}
theorem sort_comp (hS:SortC P enc srt fS) (hC:CompC P enc d fC) {av:α→AV} (hav:∀ G w x,VR G w (enc x) (av x)) (hone:∀ x,(av x).cells=[av x]) {n0:Nat} {w w1:World} (hn0:n0=w.heap.size) (hB:RowKit.Below n0 w w1) {e:TypeId} {V:Value} {zs:List α} (hlen:zs.length<4611686018427387904)
  (hV:(∃ p cap,V = .slice p 0 cap∧(p=none→cap=0)∧zs=[])∨(w1.ownsRow n0 e 1 V zs.length (zs.map enc)∧V ≠ .slice none 0 0)) :
  Calls P fS #[V] w1 fun e w2=>e = .returned (.tuple #[])∧Calls P fC #[V] w2 fun e w3=>∃ V',e = .returned V'∧RowKit.Below n0 w w3∧∀ G':Gh,(∀ b,n0≤b→G'.fr b=none)→VR G' w3 V' (.sl .no ((Lib.compact (srt zs)).map av)):=by
 rcases hV with ⟨p,cap,rfl,hp,rfl⟩|⟨hown,hne⟩
 ·refine(hS.none p cap w1).mono ?_
  rintro e' w2 ⟨rfl,rfl⟩
  refine⟨rfl,(hC.none p cap _).mono ?_⟩
  rintro e' w3 ⟨rfl,rfl⟩
  refine⟨_,rfl,hB,fun G' _ => ?_⟩
  rw[hS.nil]
  exact .sl0 p cap .no hp trivial
 ·obtain⟨g,cap,rfl,hbg,hgl,hncap,hcm,hl,hH⟩:=Lib.holds_of_ownsRow hown hne
  rcases hown.2 with ⟨h0,_⟩|⟨g',cap',cur,hv,hbase,hb,h1,h2,h3,h4⟩
  ·cases h0
  cases hv
  refine(hS.row g cap zs w1 hH hgl hlen).mono ?_
  rintro e' w2 ⟨rfl,nn,os,rfl⟩
  refine⟨rfl,?_⟩
  have hl2:(srt zs).length=zs.length:=hS.len zs
  have hH2:Holds enc (grow (putRow enc (Sort.ahead w1 nn) g 0 (srt zs).toArray) os) g 0 (srt zs).toArray:=
   holds_grow enc _ os g 0 _ (by simpa[putRow,mapBlock,Sort.ahead]using hgl) (holds_putRow enc _ g 0 _ _ (holds_ahead enc w1 nn g 0 _ hH) (by simp[hl2]))
  have hs:=ownsRow_sorted' (enc:=enc) (n:=nn) (os:=os) (ts:=srt zs) hl2 hbase hb h1 h2 h3
  rw[←hl2]
  refine(hC.row g cap (srt zs) _ hH2 (by omega) (by omega)).mono ?_
  rintro e' w3 ⟨rfl,q,rfl⟩
  have hle:=Lib.compact_length_le (srt zs)
  have hc:=Lib.ownsRow_putRow (q:=q) (k:=(Lib.compact (srt zs)).length) (ys:=Lib.compact (srt zs)++List.replicate ((srt zs).length-(Lib.compact (srt zs)).length) d) hs (by simp;omega) (by omega)
  rw[List.take_left]at hc
  refine⟨_,rfl,Lib.below_putRow (hB.grown (grownBy_sorted' _) (by rw[hn0];exact hB.size) (fun j hj=>by cases hj;exact hbase)) hbase,fun G' hG'=>VR_ownsRow hav hone hG' hc⟩
theorem op_val {ops:Array Oper} {i:Nat} {o:Oper} {a:Act} {w:World} {Q:Exit→Act→World→Prop} {K:Act→World→Prop} (hi:ops[i]?=some o) (hg:o.guard=none) {V:Value} (h:(execOp a.eval o).run P w = .ok (.value V) w) (hK:K (a.put o.dst V) w):wpOp P ops Q i K a w:=by
 unfold wpOp
 rw[hi]
 simp only[Region.wanted,hg]
 rw[if_pos (by simp)]
 refine .inl ?_
 unfold Oper.wp
 rw[h]
 exact hK
theorem op_call {ops:Array Oper} {i:Nat} {o:Oper} {a:Act} {w:World} {Q:Exit→Act→World→Prop} {K:Act→World→Prop} (hi:ops[i]?=some o) (hg:o.guard=none) {f:Nat} {args:Array Operand} {ats:Array Nat} (ho:o.op = .call { callee := .value (.func f),args:=args,argTypes:=ats })
  (hf:∃ fn,P.funcs[f]?=some fn∧(fn.name == "runtime.NumGoroutine")=false∧fn.body.isNone=false) (h:Calls P f (args.map a.eval) w fun e w'=>∃ V,e = .returned V∧K (a.put o.dst V) w'):wpOp P ops Q i K a w:=by
 obtain⟨fn,q1,q2,q3⟩:=hf
 unfold wpOp
 rw[hi]
 simp only[Region.wanted,hg]
 rw[if_pos (by simp)]
 refine .inl ?_
 unfold Oper.wp execOp
 simp only[ho,resolve,Act.eval,Deferred.ofValue,Sem.run_bind,Sem.run_pure,Result.andThen_ok,invoke,callFunc,run_program,q1,q2,q3,Bool.false_eq_true,if_false]
 refine Calls.mono (by simpa using h) fun e w' hp => ?_
 obtain⟨V,rfl,h1⟩:=hp
 exact h1
theorem seqL_sim {E:Env} (hE:dW P E) {f n:Nat} {X Y:Code} {G:Gh} {w:World} {h h':H} {tm tm':Tm} {a:Act} (hco:codeOk (E.plan f) (E.alt f) X=true) (I:Inv G w h) (T:TmR G w n tm a) (hx:cdL E f n X tm h=some (.normal,tm',h')) {Q:Exit→Act→World→Prop}
  (K:∀ G' w' a',Inv G' w' h'→Ext G w h G' w' h'→TmR G' w' n tm' a'→a'.defers=a.defers→Y.wp P Q a' w'):(Code.seq X Y).wp P Q a w:=by
 obtain⟨k,hk⟩:=(eE E f n tm h).1 hx
 refine wp_seq (code_sim hE (fn_sim hE k) f n k X hco I T hk _ fun G' w' a' I' E' T' hd => ?_).1
 exact K G' w' a' I' E' T' hd
theorem getD_puts {a:Act} {d:Nat} {V:Value} (hd:d<a.tmps.size) (t:Nat):(a.put (some d) V).tmps.getD t undef=if t=d then V else a.tmps.getD t undef:=by
 simp only[Act.put,Array.getD_eq_getD_getElem?,Array.getElem?_setIfInBounds]
 by_cases h:d=t
 ·subst h;simp[hd]
 ·rw[if_neg h,if_neg (fun e=>h e.symm)]
theorem cdL_seq_normal {E:Env} {f n:Nat} {X Y:Code} {tm tm':Tm} {h h':H} (hx:cdL E f n (.seq X Y) tm h=some (.normal,tm',h')):∃ tm1 h1,cdL E f n X tm h=some (.normal,tm1,h1)∧cdL E f n Y tm1 h1=some (.normal,tm',h'):=by
 rw[cdL_seq]at hx
 cases h1:cdL E f n X tm h with
 | none=>rw[h1]at hx;simp at hx
 | some r=>
  obtain⟨ex,tm1,h2⟩:=r
  rw[h1]at hx
  cases ex with
  | normal=>exact⟨tm1,h2,rfl,hx⟩
  | exit j=>simp at hx
  | ret=>simp at hx
theorem seq2_sim {E:Env} (hE:dW P E) {f n:Nat} {X Y Z:Code} {G:Gh} {w:World} {h h':H} {tm tm':Tm} {a:Act} (hco:codeOk (E.plan f) (E.alt f) (.seq X Y)=true) (I:Inv G w h) (T:TmR G w n tm a) (hx:cdL E f n (.seq X Y) tm h=some (.normal,tm',h')) {Q:Exit→Act→World→Prop}
  (K:∀ G' w' a',Inv G' w' h'→Ext G w h G' w' h'→TmR G' w' n tm' a'→a'.defers=a.defers→Z.wp P Q a' w'):(Code.seq X (.seq Y Z)).wp P Q a w:=by
 simp only[codeOk,Bool.and_eq_true]at hco
 obtain⟨tm1,h1,hX,hY⟩:=cdL_seq_normal hx
 exact seqL_sim hE hco.1 I T hX fun G1 w1 a1 I1 E1 T1 d1=>seqL_sim hE hco.2 I1 T1 hY fun G2 w2 a2 I2 E2 T2 d2=>K G2 w2 a2 I2 (E1.trans E2) T2 (d2.trans d1)
theorem seq3_sim {E:Env} (hE:dW P E) {f n:Nat} {X Y Y' Z:Code} {G:Gh} {w:World} {h h':H} {tm tm':Tm} {a:Act} (hco:codeOk (E.plan f) (E.alt f) (.seq X (.seq Y Y'))=true) (I:Inv G w h) (T:TmR G w n tm a) (hx:cdL E f n (.seq X (.seq Y Y')) tm h=some (.normal,tm',h')) {Q:Exit→Act→World→Prop}
  (K:∀ G' w' a',Inv G' w' h'→Ext G w h G' w' h'→TmR G' w' n tm' a'→a'.defers=a.defers→Z.wp P Q a' w'):(Code.seq X (.seq Y (.seq Y' Z))).wp P Q a w:=by
 simp only[codeOk,Bool.and_eq_true]at hco
 obtain⟨tm1,h1,hX,hY⟩:=cdL_seq_normal hx
 exact seqL_sim hE hco.1 I T hX fun G1 w1 a1 I1 E1 T1 d1=>seq2_sim hE (by simp only[codeOk,Bool.and_eq_true];exact hco.2) I1 T1 hY fun G2 w2 a2 I2 E2 T2 d2=>K G2 w2 a2 I2 (E1.trans E2) T2 (d2.trans d1)
theorem seq4_sim {E:Env} (hE:dW P E) {f n:Nat} {X Y Y' Y2 Z:Code} {G:Gh} {w:World} {h h':H} {tm tm':Tm} {a:Act} (hco:codeOk (E.plan f) (E.alt f) (.seq X (.seq Y (.seq Y' Y2)))=true) (I:Inv G w h) (T:TmR G w n tm a) (hx:cdL E f n (.seq X (.seq Y (.seq Y' Y2))) tm h=some (.normal,tm',h')) {Q:Exit→Act→World→Prop}
  (K:∀ G' w' a',Inv G' w' h'→Ext G w h G' w' h'→TmR G' w' n tm' a'→a'.defers=a.defers→Z.wp P Q a' w'):(Code.seq X (.seq Y (.seq Y' (.seq Y2 Z)))).wp P Q a w:=by
 simp only[codeOk,Bool.and_eq_true]at hco
 obtain⟨tm1,h1,hX,hY⟩:=cdL_seq_normal hx
 exact seqL_sim hE hco.1 I T hX fun G1 w1 a1 I1 E1 T1 d1=>seq3_sim hE (by simp only[codeOk,Bool.and_eq_true];exact hco.2) I1 T1 hY fun G2 w2 a2 I2 E2 T2 d2=>K G2 w2 a2 I2 (E1.trans E2) T2 (d2.trans d1)
theorem tmr_start {G:Gh} {w:World} {n:Nat} {A:Array Value} {args:List AV} (hle:args.length≤n) (hA:VRs G w A.toList args):TmR G w n (setArgs 0 args .e) { tmps:=A++Array.replicate (n-A.size) undef,defers:=[] }:=by
 have hAl:A.size=args.length:=by have:=hA.1;simpa using this
 refine⟨by simp;omega,fun t u ht => ?_⟩
 rw[setArgs_get]at ht
 split at ht
 ·rename_i hlt
  rw[Nat.sub_zero]at ht
  have hta:t<A.size:=by omega
  have e:(A++Array.replicate (n-A.size) undef).getD t undef=A[t]:=by
   rw[Array.getD_eq_getD_getElem?,Array.getElem?_append_left hta,Array.getElem?_eq_getElem hta]
   rfl
  rw[e]
  exact hA.2 t A[t] u (by simp[hta]) ht
 ·rw[T.get_e]at ht;cases ht
theorem tail_sc (hS:SortC P enc srt fS) (hC:CompC P enc d fC) {av:α→AV} (hav:∀ G w x,VR G w (enc x) (av x)) (hone:∀ x,(av x).cells=[av x]) {n0:Nat} {w w1:World} (hn0:n0=w.heap.size) (hB:RowKit.Below n0 w w1) {e:TypeId} {V:Value} {zs:List α} (hlen:zs.length<4611686018427387904)
  (hV:(∃ p cap,V = .slice p 0 cap∧(p=none→cap=0)∧zs=[])∨(w1.ownsRow n0 e 1 V zs.length (zs.map enc)∧V ≠ .slice none 0 0))
  {fn:Func} {i1 i2 s t1 t2 t3 t4 r:Nat} {o0 o1 o2 o3 o4:Oper} {ats bts:Array Nat} (h0:o0.op = .move (.tmp s)∧o0.dst=some t1∧o0.guard=none) (h1:o1.op = .call { callee := .value (.func fS),args := #[.tmp t1],argTypes:=ats }∧o1.dst=some t2∧o1.guard=none)
  (h2:o2.op = .move (.tmp s)∧o2.dst=some t3∧o2.guard=none) (h3:o3.op = .call { callee := .value (.func fC),args := #[.tmp t3],argTypes:=bts }∧o3.dst=some t4∧o3.guard=none) (h4:o4.op = .assign (.tmp t4)∧o4.dst=some r∧o4.guard=none)
  (hr:fn.results = #[.tmp r]) {a:Act} (hd:a.defers=[]) (hs:a.tmps.getD s undef=V) (hlt:t1<a.tmps.size∧t2<a.tmps.size∧t3<a.tmps.size∧t4<a.tmps.size∧r<a.tmps.size) (hne:s≠t1∧s≠t2) :
  (Code.seq (.region i1 #[o0,o1] false) (.seq (.region i2 #[o2,o3,o4] false) .ret)).wp P (bodyPost P fn fun e w3=>∃ V',e = .returned V'∧Old w w3∧∀ G':Gh,(∀ b,n0≤b→G'.fr b=none)→VR G' w3 V' (.sl .no ((Lib.compact (srt zs)).map av))) a w1:=by
 refine wp_seq (wp_region ?_)
 show wpOps P #[o0,o1] _ (List.range 2) a w1
 rw[show List.range 2=[0,1] from rfl,wpOps_cons]
 refine op_val (o:=o0) rfl h0.2.2 (V:=V) ?_ ?_
 ·unfold execOp;simp[h0.1,Act.eval,hs]
 rw[wpOps_cons]
 refine op_call (o:=o1) rfl h1.2.2 h1.1 hS.fn ?_
 have e1:(#[Operand.tmp t1].map (a.put o0.dst V).eval) = #[V]:=by
  simp only[List.map_toArray,List.map_cons,List.map_nil,Act.eval]
  rw[h0.2.1,getD_puts hlt.1,if_pos rfl]
 rw[e1]
 refine(sort_comp hS hC hav hone hn0 hB hlen hV).mono ?_
 rintro e' w2 ⟨rfl,hc⟩
 refine⟨_,rfl,?_⟩
 show Code.wp P _ _ _ w2
 refine wp_seq (wp_region ?_)
 show wpOps P #[o2,o3,o4] _ (List.range 3) _ w2
 rw[show List.range 3=[0,1,2] from rfl,wpOps_cons]
 have hsz:(a.put o0.dst V).tmps.size=a.tmps.size:=size_put ..
 have hsz2:((a.put o0.dst V).put o1.dst (.tuple #[])).tmps.size=a.tmps.size:=by rw[size_put,hsz]
 have es:((a.put o0.dst V).put o1.dst (.tuple #[])).tmps.getD s undef=V:=by
  rw[h1.2.1,getD_puts (by rw[hsz];exact hlt.2.1),if_neg hne.2,h0.2.1,getD_puts hlt.1,if_neg hne.1,hs]
 refine op_val (o:=o2) rfl h2.2.2 (V:=V) ?_ ?_
 ·unfold execOp;simp[h2.1,Act.eval,es]
 rw[wpOps_cons]
 refine op_call (o:=o3) rfl h3.2.2 h3.1 hC.fn ?_
 have e3:(#[Operand.tmp t3].map (((a.put o0.dst V).put o1.dst (.tuple #[])).put o2.dst V).eval) = #[V]:=by
  simp only[List.map_toArray,List.map_cons,List.map_nil,Act.eval]
  rw[h2.2.1,getD_puts (by rw[hsz2];exact hlt.2.2.1),if_pos rfl]
 rw[e3]
 refine hc.mono ?_
 rintro e' w3 ⟨V',rfl,hB3,hV'⟩
 refine⟨_,rfl,?_⟩
 rw[wpOps_cons]
 have hsz3:((((a.put o0.dst V).put o1.dst (.tuple #[])).put o2.dst V).put o3.dst V').tmps.size=a.tmps.size:=by rw[size_put,size_put,hsz2]
 refine op_val (o:=o4) rfl h4.2.2 (V:=V') ?_ ?_
 ·unfold execOp
  simp only[h4.1,Act.eval]
  rw[h3.2.1,getD_puts (by rw[size_put,hsz2];exact hlt.2.2.2.1),if_pos rfl]
  simp
 show Code.wp P _ _ _ w3
 refine wp_ret ?_
 refine⟨?_,V',?_,V',rfl,⟨hB3.os,hB3.tape,hB3.output,hB3.size,fun j hj=>hB3.block j (by rw[hn0];exact hj)⟩,hV'⟩
 ·rw[h0.2.1,h1.2.1,h2.2.1,h3.2.1,h4.2.1];exact hd
 ·rw[results_eq,hr,h4.2.1]
  have e5:((((((a.put o0.dst V).put o1.dst (.tuple #[])).put o2.dst V).put o3.dst V').put (some r) V').tmps.getD r undef)=V':=by rw[getD_puts (by rw[hsz3];exact hlt.2.2.2.2),if_pos rfl]
  simp[resOne,e5]
theorem below_of_ext {G G1:Gh} {w w1:World} {h1:H} (X:Ext (Gp G) w ⟨.e,0⟩ G1 w1 h1):RowKit.Below w.heap.size w w1:=
 ⟨X.os,X.tape,X.output,X.size,fun k hk=>(X.own k hk rfl).1⟩
theorem row_owned {G G1:Gh} {w w1:World} {h1:H} (I:Inv G1 w1 h1) (X:Ext (Gp G) w ⟨.e,0⟩ G1 w1 h1) {av:α→AV} (hinv:∀ G w V x,VR G w V (av x)→V=enc x) (hone:∀ x,(av x).cells=[av x]) {V:Value} {zs:List α} {et:Nat} {o:Own}
  (hr:(o = .full∧zs=[])∨∃ id,o = .ch id∧h1.t.get id=some (.chain zs.length et 1)) (r:VR G1 w1 V (.sl o (zs.map av))) :
  (∃ p cap,V = .slice p 0 cap∧(p=none→cap=0)∧zs=[])∨(w1.ownsRow w.heap.size et 1 V zs.length (zs.map enc)∧V ≠ .slice none 0 0):=by
 rcases hr with ⟨rfl,rfl⟩|⟨id,rfl,hg⟩
 ·simp only[List.map_nil]at r
  cases r with
  | sl0 A cap o hn h=>exact .inl ⟨A,cap,rfl,hn,rfl⟩
  | sl b off len cap s o els f hl hc hs h1 h2 ho=>
   simp only[List.length_nil]at hl
   subst hl
   exact .inl ⟨_,cap,rfl,fun e=>(by cases e),rfl⟩
 ·generalize hels:zs.map av=els at r
  cases r with
  | sl0 A cap o hn h=>
   have:zs=[]:=by simpa using hels
   exact .inl ⟨A,cap,rfl,hn,this⟩
  | sl b off len cap s o els f hl hc hs q1 q2 ho=>
   refine .inr ⟨?_,fun e=>by cases e⟩
   obtain⟨n,v',c1,c2,c3⟩:=ho
   obtain⟨a1,g,e,size,xs,cap',k,b2,b3,b4,b5,b6,b7⟩:=I.chn id n v' c1
   rw[hg]at b2
   rcases b2 with ⟨b2,_⟩|⟨_,b2,_⟩
   rotate_left
   ·simp at b2
   simp only[Option.some.injEq,Obj.chain.injEq]at b2
   obtain⟨rfl,rfl,rfl⟩:=b2
   have hll:len=zs.length:=by rw[←hl,←hels,List.length_map]
   have hv:=c3 hll.symm
   rw[hv]at b3 b4
   cases b3
   have hbg:w.heap.size≤b:=by
    rcases Nat.lt_or_ge b w.heap.size with hlt|hge
    ·have:=(X.own b hlt rfl).2.2
     rw[b6]at this
     cases this
    ·exact hge
   rcases b4.2 with ⟨e0,_⟩|⟨g',cap2,cur,e0,d1,d2,d3,d4,d5,d6⟩
   ·cases e0
   ·cases e0
    refine⟨by simp,.inr ⟨b,cap,cur,rfl,hbg,d2,d3,d4,d5,?_⟩⟩
    apply List.ext_getElem?
    intro i
    rw[List.getElem?_take]
    by_cases hi:i<zs.length
    ·rw[if_pos (by omega),List.getElem?_map,List.getElem?_eq_getElem hi]
     have hx:els[i]?=some (av zs[i]):=by rw[←hels,List.getElem?_map,List.getElem?_eq_getElem hi];rfl
     have hs1:s=1:=by rw[←hs _ (List.mem_of_getElem? hx),hone];rfl
     subst hs1
     have e1:=(q1 i 0 (by omega) (by omega)).1
     have e2:=hinv _ _ _ _ (q2 i 0 _ _ hx (by rw[hone];rfl))
     rw[e2]at e1
     simp only[World.cell?,d2,Nat.zero_add,Nat.mul_one,Nat.add_zero]at e1
     simp only[Option.isSome_none,Bool.false_eq_true,if_false]at e1
     rw[Array.getElem?_toList]
     exact e1
    ·rw[if_neg (by omega),List.getElem?_eq_none (by simp;omega)]
end
end Go.Ev
namespace Go.Ev
variable [MT]
section
variable [Inhabited KA0] {P:Program}
theorem primVal_direct' {f:Nat} {fn:Func} (q1:P.funcs[f]?=some fn) (q2:(fn.name == "runtime.NumGoroutine")=false) (q3:fn.body.isNone=false) {p:List AV→Option AV}
  (hp:∀ args v,p args=some v→∃ args',AV.wks 0 args args'∧∀ (G:Gh) (w:World) (A:Array Value),Inv (Gp G) w ⟨.e,0⟩→VRs (Gp G) w A.toList args' →
   Calls P f A w fun e w'=>∃ V,e = .returned V∧Old w w'∧((∀ b,w.heap.size≤b→G.fr b=none)→VR G w' V v)):cJ P f (cF p):=by
 refine⟨⟨fn,q1,q2,q3⟩,fun args h v hk he G w A I hA => ?_⟩
 unfold cF at he
 cases hv:p args with
 | none=>rw[hv]at he;simp at he
 | some v0=>
  rw[hv]at he
  simp only[Option.some.injEq,Prod.mk.injEq]at he
  obtain⟨rfl,rfl⟩:=he
  obtain⟨args',hwa,hc⟩:=hp args v0 hv
  have hA':VRs (Gp G) w A.toList args':=VRs.wk (n:=0) (G:=G) (G':=Gp G) (fun b o v s=>s) (fun id b hi=>by omega) (fun id m v hi=>by omega) hA hwa
  refine(hc G w A (invp I) hA').mono ?_
  rintro e w' ⟨V,rfl,O,hV⟩
  refine⟨G,V,rfl,hV fun b hb => ?_,grow_inv I O.os O.tape O.output O.size O.same,grow_ext G _ O.os O.tape O.output O.size O.same⟩
  cases hf:G.fr b with
  | none=>rfl
  | some k=>exact absurd (I.frb b k hf).2 (by omega)
theorem VR.old {G:Gh} {w w':World} (O:Old w w') {V:Value} {x y:AV} (r:VR (Gp G) w V x) (h:x.wk 0 y):VR G w' V y:=
 VR.wk (n:=0) (G:=Gp G) (G':=G) (fun b o v s=>⟨by
  have hb:b<w.heap.size:=by
   have:=s.1
   simp only[World.cell?]at this
   cases hh:w.heap[b]? with
   | none=>rw[hh]at this;simp at this
   | some o=>exact(Array.getElem?_eq_some_iff.1 hh).1
  have:=s.1
  simp only[World.cell?]at this ⊢
  rw[O.same b hb]
  exact this,s.2⟩) (fun id b hi=>by omega) (fun id m v hi=>by omega) r h
end
end Go.Ev
namespace Go.Ev
variable [MT]
section
variable [Inhabited KA0] {P:Program} {E:Env}
theorem body_direct (hE:dW P E) {f:Nat} {fn:Func} {c:Code} (hf:E.fns f=some fn) (hb:fn.body=some c) {args:List AV} (hn:Nat.ble args.length fn.ntmps=true) {v v':AV} {h1:H} (hbd:bodyL E f fn c args ⟨.e,0⟩=some (v',h1)) (hw:v'.wk 0 v)
  (G:Gh) (w:World) (A:Array Value) (I:Inv (Gp G) w ⟨.e,0⟩) (hA:VRs (Gp G) w A.toList args):Calls P f A w fun e w'=>∃ V,e = .returned V∧Old w w'∧((∀ b,w.heap.size≤b→G.fr b=none)→VR G w' V v):=by
 refine((bodyL_sim hE hf hb hn hbd).2 (Gp G) w A I hA).mono ?_
 rintro e w' ⟨G',V,rfl,hV,hI,hX⟩
 have hh:∀ j,j<w.heap.size→w'.heap[j]?=w.heap[j]?:=fun j hj=>(hX.own j hj rfl).1
 refine⟨V,rfl,⟨hX.os,hX.tape,hX.output,hX.size,hh⟩,fun hG=>VR.wk (n:=0) (G:=G') (fun b o v s=>⟨s.1,?_⟩) (fun id b hi=>by omega) (fun id m v hi=>by omega) hV hw⟩
 by_cases hbs:b<w.heap.size
 ·have:=(hX.own b hbs rfl).2.1
  have s2:=s.2
  rw[this]at s2
  exact s2
 ·exact .inl (hG b (by omega))
end
def strs (L:List Str):List AV:=L.map fun t => .str t.s
theorem strs_enc (L:List Str):(Enc.enc L:AV) = .sl .no (strs L):=rfl
theorem cA (L:List Str):(strs L).length=L.length:=List.length_map ..
theorem strs_get {L:List Str} {i:Nat} {t:Str} (h:L[i]?=some t):(strs L)[i]?=some (.str t.s):=by unfold strs;rw[List.getElem?_map,h];rfl
theorem strs_append (a b:List Str):strs a++strs b=strs (a++b):=by simp[strs]
theorem fZ:∀ L:List Str,aM 1 (strs L)=true
 | []=>rfl
 | t::l=>by have:=fZ l;simp only[strs,List.map_cons,aM,Bool.and_eq_true]at this ⊢;exact⟨rfl,this⟩
theorem strs_ones:∀ L:List Str,bY (strs L)=true
 | []=>rfl
 | t::l=>by have:=strs_ones l;simp only[strs,List.map_cons,bY,Bool.and_eq_true]at this ⊢;exact⟨rfl,this⟩
theorem strs_bare (n:Nat) (o:Own) (L:List Str):(AV.sl o (strs L)).wk n (.sl .no (strs L)):=wk_sl.2 ⟨own_no,(wk_sl.1 (Enc.bare n L)).2⟩
theorem natsBeq_comm (a b:List Nat):aB a b=aB b a:=by
 rw[Bool.eq_iff_iff,cU,cU]
 exact eq_comm
def dA (L:List Str) (v:List Nat):Bool:=L.any fun t=>aB v t.s
theorem hasS_iff {L:List Str} {v:List Nat}:dA L v=true↔⟨v⟩∈L:=by
 simp only[dA,List.any_eq_true,cU]
 constructor
 ·rintro⟨⟨t⟩,h1,h2⟩;simp only at h2;subst h2;exact h1
 ·intro h;exact⟨_,h,rfl⟩
end Go.Ev
namespace Go.Ev
section
variable {α:Type} [Inhabited α] [DecidableEq α] {le:α→α→Prop}
theorem upTo_mem (d:Array α) (m:Nat) (x:α):x∈Lib.compactUpTo d m↔∃ j,j<m∧d[j]! = x:=by
 simp only[Lib.compactUpTo,List.mem_map,List.mem_filter,List.mem_range]
 constructor
 ·rintro⟨j,⟨h1,_⟩,h3⟩;exact⟨j,h1,h3⟩
 ·rintro⟨j,h1,h3⟩
  induction j with
  | zero=>exact⟨0,⟨h1,by simp[Lib.keeps]⟩,h3⟩
  | succ j ih=>
   by_cases h:d[j+1]! = d[j]!
   ·exact ih (by omega) (by rw[←h];exact h3)
   ·exact⟨j+1,⟨h1,by simp[Lib.keeps,h]⟩,h3⟩
theorem upTo_strict (tr:∀ a b c,le a b→le b c→le a c) (an:∀ a b,le a b→le b a→a=b) (d:Array α) (hd:∀ i j,i<j→j<d.size→le d[i]! d[j]!) (rf:∀ a,le a a) :
  ∀ m,m≤d.size→(Lib.compactUpTo d m).Pairwise fun x y=>le x y∧x≠y
 | 0,_=>by simp[Lib.compactUpTo]
 | m+1,hm=>by
  rw[Lib.compactUpTo_succ]
  have ih:=upTo_strict tr an d hd rf m (by omega)
  by_cases hk:Lib.keeps d m
  ·rw[if_pos hk,List.pairwise_append]
   refine⟨ih,by simp,fun x hx y hy => ?_⟩
   obtain⟨j,hj,rfl⟩:=(upTo_mem d m x).1 hx
   simp only[List.mem_singleton]at hy
   subst hy
   refine⟨hd j m hj (by omega),fun e => ?_⟩
   simp only[Lib.keeps,decide_eq_true_eq]at hk
   rcases hk with h|h
   ·omega
   ·refine h (an _ _ ?_ (hd (m-1) m (by omega) (by omega)))
    rw[←e]
    by_cases h':j=m-1
    ·rw[h'];exact rf _
    ·exact hd j (m-1) (by omega) (by omega)
  ·rw[if_neg hk,List.append_nil];exact ih
theorem compact_sorted (rf:∀ a,le a a) (tr:∀ a b c,le a b→le b c→le a c) (an:∀ a b,le a b→le b a→a=b) {zs:List α} (h:zs.Pairwise le) :
  (Lib.compact zs).Pairwise (fun x y=>le x y∧x≠y)∧∀ x,x∈Lib.compact zs↔x∈zs:=by
 refine⟨upTo_strict tr an _ (fun i j hij hj => ?_) rf _ (by simp),fun x => ?_⟩
 ·have hj':j<zs.length:=by simpa using hj
  have:=List.pairwise_iff_getElem.1 h i j (by omega) hj' hij
  simpa[getElem!_pos,hj',show i<zs.length by omega]using this
 ·unfold Lib.compact
  rw[upTo_mem,List.mem_iff_getElem]
  constructor
  ·rintro⟨j,hj,e⟩;exact⟨j,hj,by rw[←e];simp[hj]⟩
  ·rintro⟨j,hj,e⟩;exact⟨j,hj,by rw[←e];simp[hj]⟩
theorem strict_eq (an:∀ a b,le a b→le b a→a=b):∀ {l m:List α},l.Pairwise (fun x y=>le x y∧x≠y)→m.Pairwise (fun x y=>le x y∧x≠y)→(∀ x,x∈l↔x∈m)→l=m
 | [],[],_,_,_=>rfl
 | [],b::m,_,_,h=>by have:=(h b).2 (List.mem_cons_self ..);simp at this
 | a::l,[],_,_,h=>by have:=(h a).1 (List.mem_cons_self ..);simp at this
 | a::l,b::m,hl,hm,h=>by
  rw[List.pairwise_cons]at hl hm
  have e:a=b:=by
   rcases List.mem_cons.1 ((h a).1 (List.mem_cons_self ..))with e|e
   ·exact e
   ·rcases List.mem_cons.1 ((h b).2 (List.mem_cons_self ..))with e2|e2
    ·exact e2.symm
    ·exact an _ _ (hl.1 b e2).1 (hm.1 a e).1
  subst e
  rw[strict_eq an hl.2 hm.2 fun x => ?_]
  constructor
  ·intro hx
   rcases List.mem_cons.1 ((h x).1 (List.mem_cons_of_mem _ hx))with e|e
   ·exact absurd e.symm (hl.1 x hx).2
   ·exact e
  ·intro hx
   rcases List.mem_cons.1 ((h x).2 (List.mem_cons_of_mem _ hx))with e|e
   ·exact absurd e.symm (hm.1 x hx).2
   ·exact e
end
end Go.Ev
