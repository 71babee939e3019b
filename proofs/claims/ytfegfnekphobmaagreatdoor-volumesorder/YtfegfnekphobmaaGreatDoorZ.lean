/- Part of the proof: S407. -/
import Derived.Test.YtfegfnekphobmaaGreatDoorK
set_option linter.unnecessarySimpa false
set_option linter.unusedVariables false
set_option linter.unusedSimpArgs false
namespace Go.Proofs.YtfegfnekphobmaaGreatDoor
open Go Go.Proofs.YtfegfnekphobmaaGreatDoor.AL
section
open Go Go.Proofs.YtfegfnekphobmaaGreatDoor.AL Go.ChangeShapes Go.WideShapes Go.ChangeAt Go.RowKit Go.Lib Go.Shelf
theorem params6:Tryz.f6.params.toList=[22,5,5]:=by kernel_rfl
theorem results6:Tryz.f6.resultTypes.toList=[4]:=by kernel_rfl
set_option maxRecDepth 1000000 in
theorem volumesOrder_met(os:Os) (args:Array Value):laidMet Tryz.prog Rows.volumesOrderRow.laid ((laidWorld os).forCall (fun _ _=>0) ⟨#[],args,[]⟩).memory :=
 (LaidIn.of_run [4,0,1,3] 8 (by kernel_rfl) (by kernel_rfl) (by kernel_rfl) (by kernel_rfl)).met
theorem volumesOrder_witness(os:Os){H:Type}(enc:TypeId×Value→H) :
  (OpenSpec.ofChange Rows.volumesOrderSpec).preRow enc Tryz.prog Tryz.f6 Rows.volumesOrderRow.domain false Rows.volumesOrderRow.laid ((laidWorld os).forCall (fun _ _=>0) ⟨#[],#[.slice none 0 0,.int .u8 0,.int .u8 0],[]⟩).memory #[.slice none 0 0,.int .u8 0,.int .u8 0]:=by
 have hw:(DataW.whole enc Tryz.prog ((laidWorld os).forCall (fun _ _=>0) ⟨#[],#[.slice none 0 0,.int .u8 0,.int .u8 0],[]⟩).memory Tryz.f6.params.toList (OpenSpec.ofChange Rows.volumesOrderSpec).vars false (#[.slice none 0 0,.int .u8 0,.int .u8 0]:Array Value).toList 8).map (fun x=>(x.1,x.2.1)) =
   some ([.nil,.lit (.int .u8 0),.lit (.int .u8 0)],[]):=by kernel_rfl
 obtain⟨⟨x1,x2,x3⟩,hx,hx1⟩:=Option.map_eq_some_iff.1 hw
 simp only [Prod.mk.injEq] at hx1
 obtain⟨rfl,rfl⟩:=hx1
 exact OpenSpec.preRow_of_cond 8 hx (by kernel_rfl) (fun k hk=>by cases hk) (by kernel_rfl) (volumesOrder_met os _)
set_option maxRecDepth 100000 in
theorem volumesOrder_lifted(os:Os) (started:os.Started) (H:Type) (enc:TypeId×Value→H) (F:Stop.Interp) :
  ReturnsInHanded {} Tryz.checked os 6 .any ((OpenSpec.ofChange Rows.volumesOrderSpec).preRow enc Tryz.prog Tryz.f6 Rows.volumesOrderRow.domain false Rows.volumesOrderRow.laid) (((OpenSpec.ofChange Rows.volumesOrderSpec).at F).post enc Tryz.prog Tryz.f6 false true false false):=by
 refine returnsInHanded_of_row (C:=Tryz.checked) (s:=(OpenSpec.ofChange Rows.volumesOrderSpec)) (F:=F) own started (by kernel_rfl) Tryz.func6
  (witness_row_atRef (enc:=enc) (C:=Tryz.checked) false (laidWorld os) #[.slice none 0 0,.int .u8 0,.int .u8 0] rfl (by kernel_rfl) (by kernel_rfl) (by kernel_rfl) (volumesOrder_witness os enc)) ?_
 intro W base args ds gs before hval hW _ _ _ hL _ _
 refine law_contract laidOut params6 results6 (by kernel_rfl) rfl (fun ds h=>by match ds,h with | [_,_,_],_=>rfl) (by kernel_rfl) (.cons sPgs (.cons sU8i (.cons sU8i .nil))) (fun ds hK=>?_) W base args ds gs before (glOk_of hL) hval hW
 cases hK
 rename_i h1 hK
 cases hK
 rename_i h2 hK
 cases hK
 rename_i h3 hK
 cases hK
 obtain⟨n1,rfl⟩:=h1
 obtain⟨n2,hb2,rfl⟩:=h2
 obtain⟨n3,hb3,rfl⟩:=h3
 exact Go.Proofs.YtfegfnekphobmaaGreatDoor.order' n1 n2 n3 hb2 hb3
theorem volumesOrder_holds:Rows.VolumesOrderSaid :=
 OpenClaim.holds_of_cond 6 Tryz.f6 rfl rfl rfl rfl rfl rfl rfl ⟨rfl,rfl,rfl,rfl,rfl⟩ rfl rfl rfl rfl rfl (by kernel_rfl) Tryz.func6 (by kernel_rfl)
  (of_decide_eq_true (by kernel_rfl)) (by unfold Func.isWrapper;rw [if_neg (of_decide_eq_false (by kernel_rfl))];exact⟨rfl,rfl⟩)
  (fun os started H enc _ F0=>by rw [OpenClaim.pre_eq_preRow];exact volumesOrder_lifted os started H enc F0)
theorem volumesOrder_card:Rows.VolumesOrderCardSaid :=
 Claim7.holds_tied_plain_at .later [] [.data,.data,.data,.pinned] true _ true
  volumesOrder_holds (fun _ h=>by cases h) (by kernel_rfl) (fun _ h=>by cases h) volumesOrder_row_tie rfl ⟨rfl,rfl⟩ (by kernel_rfl) rfl
  (fun f fn hf hfn=>by
   obtain rfl:f=6:=Option.some.inj ((show Tryz.prog.funcNamed Rows.volumesOrderRow.func=some 6 by kernel_rfl).symm.trans hf) |>.symm
   obtain rfl:fn=Tryz.f6:=(Option.some.inj (Tryz.func6.symm.trans hfn)).symm
   exact⟨by kernel_rfl,fun j t ht=>by
    rw [← Array.getElem?_toList,params6] at ht
    match j with
    | 0=>simp at ht;subst ht;exact(show Tryz.prog.wantsStandIn 22=false by kernel_rfl)
    | 1=>simp at ht;subst ht;exact(show Tryz.prog.wantsStandIn 5=false by kernel_rfl)
    | 2=>simp at ht;subst ht;exact(show Tryz.prog.wantsStandIn 5=false by kernel_rfl)
    | j+3=>simp at ht⟩)
  (by kernel_rfl)
end

end Go.Proofs.YtfegfnekphobmaaGreatDoor
