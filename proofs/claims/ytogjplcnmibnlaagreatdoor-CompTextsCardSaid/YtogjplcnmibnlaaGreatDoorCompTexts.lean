/- The law CompTexts answers true for all it may be handed, and what was handed in reads behind the call as it read before. -/
import Derived.Test.YtogjplcnmibnlaaGreatDoorKR
set_option autoImplicit false
set_option maxRecDepth 100000
set_option linter.unusedVariables false
namespace Go.Proofs.YtogjplcnmibnlaaGreatDoor.CompTexts
open Go.Ev Go.Ev.Nd Go.ChangeShapes Go.WideShapes Go.ChangeAt Go.RowKit Go.Proofs.YtogjplcnmibnlaaGreatDoor.Env
theorem walk (w:World) (a:ByteArray) (_hw:a.size≤maxLen) (hk:∀ p∈(default:KA0).ka,p.2 w.heap[p.1]?∧p.1<w.heap.size):Calls Tryz.prog 4 #[.string a] w fun e w'=>e = .returned (.bool true)∧Below w.heap.size w w':=by
 have hb:Pa.okB (bytesOf a):=fun x hx=>by
  unfold bytesOf at hx
  obtain⟨b,_,rfl⟩:=List.mem_map.1 hx
  exact UInt8.toNat_lt b
 obtain⟨h',hh⟩:=Ck.law4 (bytesOf a) hb
 obtain⟨k,hk'⟩:=lim_ex hh
 refine((fn_sim Ck.eT_ok k 4 _ _ _ _ hk').2 (G0 w) w #[.string a] (inv0 w hk) (.cons (.str a) (.nil _ _))).mono fun e w' hp => ?_
 obtain⟨G',V,he,hV,hI,hE⟩:=hp
 cases hV
 exact⟨he,hE.below⟩
theorem lifted (os:Os) (started:os.Started) (H:Type) (enc:TypeId × Value→H) :
  ReturnsInHanded {} Tryz.checked os 4 .any (fun w args=>(Rows.compTextsSpec.pre enc Tryz.prog Tryz.f4 [] false w args∧laidMetH Tryz.prog laidL w)∧sizedMet enc Tryz.prog Tryz.f4 (OpenSpec.ofChange Rows.compTextsSpec) false w args) (Rows.compTextsSpec.post enc Tryz.prog Tryz.f4 false true false false):=by
 refine returnsInHanded_of_change_and (C:=Tryz.checked) (X:=fun w _=>laidMetH Tryz.prog laidL w) (fun _ _ _ hh h=>h.of_heap hh) own started (by kernel_rfl) Tryz.func4
  (ChangeSpec.witness_shaped (enc:=enc) (C:=Tryz.checked) (os:=os) (X:=fun w _=>laidMetH Tryz.prog laidL w) false (World.doorLaid Tryz.prog 4000 os) #[.string ⟨#[]⟩] 8 (by kernel_rfl) (shaped os _) (by kernel_rfl) (by kernel_rfl) (by kernel_rfl) (door_met os _)) ?_
 intro W base args ds gs before hval0 hW _ hwt hL _
 have hval:∀ (j:Nat) t v,Tryz.f4.params[j]?=some t→args[j]?=some v→Value.okWide Tryz.prog W .any base t v:=hval0
 have hW':=hW
 have hwt':∀ n∈DataW.weightsEach Tryz.prog (Tryz.f4.params.toList++Rows.compTextsSpec.plain.varTypes Tryz.prog) (ds++gs),n≤NB:=fun n hn=>of_decide_eq_true (List.all_eq_true.1 hwt n hn)
 rw[Tryz.params4]at hwt'
 obtain⟨p,q,hA0,hV,rfl,hfz,hnd⟩:=hW
 have hA:DataW.TrodAll enc Tryz.prog W 0 (fun _=>true) true Tryz.f4.params.toList args.toList ds p:=hA0
 rw[Tryz.params4]at hA hval
 obtain⟨v0,vs0,d0,ds0,p0,q0,hargs,rfl,rfl,h0,r0⟩:=trodAll_cons hA
 obtain⟨rfl,rfl,rfl⟩:=trodAll_nil r0
 obtain rfl:args = #[v0]:=by cases args;simp_all
 obtain⟨rfl,rfl⟩:=trodVars_none hV
 obtain⟨a0,rfl,rfl,rfl,w0⟩:=Go.ChangeMaps.open_string Tryz.underlying9 (hval 0 9 v0 rfl rfl) h0
 refine(walk W a0 w0 (ka_of_laid hL)).mono fun e W' ⟨he,hb⟩ => ?_
 subst he
 exact⟨_,rfl,post_of_below laidOut (fun t ht=>by
  rw[Tryz.params4]at ht
  have hm:t∈[9]:=by simpa using ht
  have hall:([9].all fun u=>Tryz.prog.readableRec u&&decide (u<Tryz.prog.types.size))=true:=by kernel_rfl
  have:=List.all_eq_true.1 hall t hm
  simp only[Bool.and_eq_true,decide_eq_true_eq]at this
  exact this) rfl rfl Tryz.underlying4 hW' rfl rfl rfl hb⟩
theorem over:Rows.compTextsRow.holds Tryz.pinned (OpenSpec.ofChange Rows.compTextsSpec):=
 OpenClaim.holds_of_wide 4 Tryz.f4 rfl rfl rfl rfl rfl rfl rfl ⟨rfl,rfl,rfl,rfl,rfl⟩ rfl rfl rfl rfl rfl (by kernel_rfl) Tryz.func4 (by kernel_rfl)
  (of_decide_eq_true (by kernel_rfl)) (by unfold Func.isWrapper;first|(rw[if_pos (by decide +kernel)];kernel_rfl)|(rw[if_neg (by decide +kernel)];exact⟨rfl,rfl⟩))
  (fun os started H enc _=>lifted os started H enc)
theorem card:Rows.CompTextsCardSaid:=
 Claim7.holds_tied_plain_at .later [] [.listed,.data] true (true, "9f5fa295e72a45b4c9ef79062a1eaa6038550b8e74c8555c322bf3dbf528840c") false
  over (fun _ h=>by cases h) (by kernel_rfl) (fun _ h=>by cases h) compTexts_row_tie rfl ⟨rfl,rfl⟩ (by kernel_rfl) rfl
  (fun f fn hf hfn=>by
   obtain rfl:f=4:=Option.some.inj ((show Tryz.prog.funcNamed "emissary/emissarylaw14.CompTexts" = some 4 by kernel_rfl).symm.trans hf) |>.symm
   obtain rfl:fn=Tryz.f4:=(Option.some.inj (Tryz.func4.symm.trans hfn)).symm
   exact⟨by kernel_rfl,fun j t ht=>by
    rw[Tryz.params4]at ht
    have hm:t∈[9]:=by simpa using Array.mem_of_getElem? ht
    have hall:([9].all fun u => !Tryz.prog.wantsStandIn u)=true:=by kernel_rfl
    exact(show Tryz.prog.wantsStandIn t=false by simpa using List.all_eq_true.1 hall t hm)⟩)
  (by kernel_rfl)
end Go.Proofs.YtogjplcnmibnlaaGreatDoor.CompTexts
namespace Go.Proofs.YtogjplcnmibnlaaGreatDoor
theorem compTextsProved:Rows.CompTextsCardSaid:=CompTexts.card
#print axioms compTextsProved
end Go.Proofs.YtogjplcnmibnlaaGreatDoor
