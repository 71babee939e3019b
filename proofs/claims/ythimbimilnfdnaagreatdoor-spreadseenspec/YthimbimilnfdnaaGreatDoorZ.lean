/- Part of the proof: S573. -/
import Derived.Test.YthimbimilnfdnaaGreatDoorJ
set_option linter.unnecessarySimpa false
set_option linter.unusedVariables false
set_option linter.unusedSimpArgs false
namespace Go.Proofs.YthimbimilnfdnaaGreatDoor
open Go Go.Proofs.YthimbimilnfdnaaGreatDoor.AL
section
open Go Go.Proofs.YthimbimilnfdnaaGreatDoor.AL Go.ChangeShapes Go.WideShapes Go.ChangeAt Go.RowKit Go.Lib Go.Shelf
def wPe:Value:=.agg #[.slice none 0 0]
theorem params4:Tryz.f4.params.toList=[48,3]:=by kernel_rfl
theorem results4:Tryz.f4.resultTypes.toList=[4]:=by kernel_rfl
set_option maxRecDepth 1000000 in
theorem spreadSeenSpec_met(os:Os) (args:Array Value):laidMet Tryz.prog Rows.spreadSeenSpecRow.laid ((laidWorld os).forCall (fun _ _=>0) ⟨#[],args,[]⟩).memory :=
 (LaidIn.of_run [2,1] 8 (by kernel_rfl) (by kernel_rfl) (by kernel_rfl) (by kernel_rfl)).met
theorem spreadSeenSpec_witness(os:Os){H:Type}(enc:TypeId×Value→H) :
  (OpenSpec.ofChange Rows.spreadSeenSpecSpec).preRow enc Tryz.prog Tryz.f4 Rows.spreadSeenSpecRow.domain false Rows.spreadSeenSpecRow.laid ((laidWorld os).forCall (fun _ _=>0) ⟨#[],#[wPe,.int .i64 0],[]⟩).memory #[wPe,.int .i64 0]:=by
 have hw:(DataW.whole enc Tryz.prog ((laidWorld os).forCall (fun _ _=>0) ⟨#[],#[wPe,.int .i64 0],[]⟩).memory Tryz.f4.params.toList (OpenSpec.ofChange Rows.spreadSeenSpecSpec).vars false (#[wPe,.int .i64 0]:Array Value).toList 8).map (fun x=>(x.1,x.2.1)) =
   some ([.agg [.nil],.lit (.int .i64 0)],[]):=by kernel_rfl
 obtain⟨⟨x1,x2,x3⟩,hx,hx1⟩:=Option.map_eq_some_iff.1 hw
 simp only [Prod.mk.injEq] at hx1
 obtain⟨rfl,rfl⟩:=hx1
 exact OpenSpec.preRow_of_cond 8 hx (by kernel_rfl) (fun k hk=>by cases hk) (by kernel_rfl) (spreadSeenSpec_met os _)
set_option maxRecDepth 100000 in
theorem spreadSeenSpec_lifted(os:Os) (started:os.Started) (H:Type) (enc:TypeId×Value→H) (F:Stop.Interp) :
  ReturnsInHanded {} Tryz.checked os 4 .any ((OpenSpec.ofChange Rows.spreadSeenSpecSpec).preRow enc Tryz.prog Tryz.f4 Rows.spreadSeenSpecRow.domain false Rows.spreadSeenSpecRow.laid) (((OpenSpec.ofChange Rows.spreadSeenSpecSpec).at F).post enc Tryz.prog Tryz.f4 false true false false):=by
 refine returnsInHanded_of_row (C:=Tryz.checked) (s:=(OpenSpec.ofChange Rows.spreadSeenSpecSpec)) (F:=F) own started (by kernel_rfl) Tryz.func4
  (witness_row_atRef (enc:=enc) (C:=Tryz.checked) false (laidWorld os) #[wPe,.int .i64 0] rfl (by kernel_rfl) (by kernel_rfl) (by kernel_rfl) (spreadSeenSpec_witness os enc)) ?_
 intro W base args ds gs before hval hW _ _ _ hL _ _
 refine law_contract laidOut params4 results4 (by kernel_rfl) rfl (fun ds h=>by match ds,h with | [_,_],_=>rfl) (by kernel_rfl) (.cons sPe (.cons sI64 .nil)) (fun ds hK=>?_) W base args ds gs before (glOk_of hL) hval hW
 cases hK
 rename_i h1 hK
 cases hK
 rename_i h2 hK
 cases hK
 obtain⟨n1,rfl⟩:=h1
 obtain⟨n2,hb2,rfl⟩:=h2
 exact Go.Proofs.YthimbimilnfdnaaGreatDoor.spreadSeenSpec n1 n2
theorem spreadSeenSpec_holds:Rows.SpreadSeenSpecSaid :=
 OpenClaim.holds_of_cond 4 Tryz.f4 rfl rfl rfl rfl rfl rfl rfl ⟨rfl,rfl,rfl,rfl,rfl⟩ rfl rfl rfl rfl rfl (by kernel_rfl) Tryz.func4 (by kernel_rfl)
  (of_decide_eq_true (by kernel_rfl)) (by unfold Func.isWrapper;rw [if_neg (of_decide_eq_false (by kernel_rfl))];exact⟨rfl,rfl⟩)
  (fun os started H enc _ F0=>by rw [OpenClaim.pre_eq_preRow];exact spreadSeenSpec_lifted os started H enc F0)
theorem spreadSeenSpec_card:Rows.SpreadSeenSpecCardSaid :=
 Claim7.holds_tied_plain_at .later [] [.data,.pinned] true _ true
  spreadSeenSpec_holds (fun _ h=>by cases h) (by kernel_rfl) (fun _ h=>by cases h) spreadSeenSpec_row_tie rfl ⟨rfl,rfl⟩ (by kernel_rfl) rfl
  (fun f fn hf hfn=>by
   obtain rfl:f=4:=Option.some.inj ((show Tryz.prog.funcNamed Rows.spreadSeenSpecRow.func=some 4 by kernel_rfl).symm.trans hf) |>.symm
   obtain rfl:fn=Tryz.f4:=(Option.some.inj (Tryz.func4.symm.trans hfn)).symm
   exact⟨by kernel_rfl,fun j t ht=>by
    rw [← Array.getElem?_toList,params4] at ht
    match j with
    | 0=>simp at ht;subst ht;exact(show Tryz.prog.wantsStandIn 48=false by kernel_rfl)
    | 1=>simp at ht;subst ht;exact(show Tryz.prog.wantsStandIn 3=false by kernel_rfl)
    | j+2=>simp at ht⟩)
  (by kernel_rfl)
end

end Go.Proofs.YthimbimilnfdnaaGreatDoor
