/- Part of the proof: S628. -/
import Derived.Test.YtmmlicjkdeankaaGreatDoorJ
set_option linter.unnecessarySimpa false
set_option linter.unusedVariables false
set_option linter.unusedSimpArgs false
namespace Go.Proofs.YtmmlicjkdeankaaGreatDoor
open Go Go.Proofs.YtmmlicjkdeankaaGreatDoor.AL
section
open Go Go.Proofs.YtmmlicjkdeankaaGreatDoor.AL Go.ChangeShapes Go.WideShapes Go.ChangeAt Go.RowKit Go.Lib Go.Shelf
theorem params3:Tryz.f3.params.toList=[22,22,5,23,24,3]:=by kernel_rfl
theorem results3:Tryz.f3.resultTypes.toList=[4]:=by kernel_rfl
set_option maxRecDepth 1000000 in
theorem topSpread_met(os:Os) (args:Array Value):laidMet Tryz.prog Rows.topSpreadRow.laid ((laidWorld os).forCall (fun _ _=>0) ⟨#[],args,[]⟩).memory :=
 (LaidIn.of_run [2,1] 8 (by kernel_rfl) (by kernel_rfl) (by kernel_rfl) (by kernel_rfl)).met
theorem topSpread_witness(os:Os){H:Type}(enc:TypeId×Value->H) :
  (OpenSpec.ofChange Rows.topSpreadSpec).preRow enc Tryz.prog Tryz.f3 Rows.topSpreadRow.domain false Rows.topSpreadRow.laid ((laidWorld os).forCall (fun _ _=>0) ⟨#[],#[.slice none 0 0,.slice none 0 0,.int .u8 0,.slice none 0 0,.slice none 0 0,.int .i64 0],[]⟩).memory #[.slice none 0 0,.slice none 0 0,.int .u8 0,.slice none 0 0,.slice none 0 0,.int .i64 0]:=by
 have hw:(DataW.whole enc Tryz.prog ((laidWorld os).forCall (fun _ _=>0) ⟨#[],#[.slice none 0 0,.slice none 0 0,.int .u8 0,.slice none 0 0,.slice none 0 0,.int .i64 0],[]⟩).memory Tryz.f3.params.toList (OpenSpec.ofChange Rows.topSpreadSpec).vars false (#[.slice none 0 0,.slice none 0 0,.int .u8 0,.slice none 0 0,.slice none 0 0,.int .i64 0]:Array Value).toList 8).map (fun x=>(x.1,x.2.1)) =
   some ([.nil,.nil,.lit (.int .u8 0),.nil,.nil,.lit (.int .i64 0)],[]):=by kernel_rfl
 obtain⟨⟨x1,x2,x3⟩,hx,hx1⟩:=Option.map_eq_some_iff.1 hw
 simp only [Prod.mk.injEq] at hx1
 obtain⟨rfl,rfl⟩:=hx1
 exact OpenSpec.preRow_of_cond 8 hx (by kernel_rfl) (fun k hk=>by cases hk) (by kernel_rfl) (topSpread_met os _)
set_option maxRecDepth 100000 in
theorem topSpread_lifted(os:Os) (started:os.Started) (H:Type) (enc:TypeId×Value->H) (F:Stop.Interp) :
  ReturnsInHanded {} Tryz.checked os 3 .any ((OpenSpec.ofChange Rows.topSpreadSpec).preRow enc Tryz.prog Tryz.f3 Rows.topSpreadRow.domain false Rows.topSpreadRow.laid) (((OpenSpec.ofChange Rows.topSpreadSpec).at F).post enc Tryz.prog Tryz.f3 false true false false):=by
 refine returnsInHanded_of_row (C:=Tryz.checked) (s:=(OpenSpec.ofChange Rows.topSpreadSpec)) (F:=F) own started (by kernel_rfl) Tryz.func3
  (witness_row_atRef (enc:=enc) (C:=Tryz.checked) false (laidWorld os) #[.slice none 0 0,.slice none 0 0,.int .u8 0,.slice none 0 0,.slice none 0 0,.int .i64 0] rfl (by kernel_rfl) (by kernel_rfl) (by kernel_rfl) (topSpread_witness os enc)) ?_
 intro W base args ds gs before hval hW _ _ _ hL _ _
 refine law_contract laidOut params3 results3 (by kernel_rfl) rfl (fun ds h=>by match ds,h with | [_,_,_,_,_,_],_=>rfl) (by kernel_rfl) (.cons sChs (.cons sChs (.cons sU8i (.cons sBs8 (.cons sVis (.cons sI64 .nil)))))) (fun ds hK=>?_) W base args ds gs before (glOk_of hL) hval hW
 cases hK
 rename_i h1 hK
 cases hK
 rename_i h2 hK
 cases hK
 rename_i h3 hK
 cases hK
 rename_i h4 hK
 cases hK
 rename_i h5 hK
 cases hK
 rename_i h6 hK
 cases hK
 obtain⟨n1,rfl⟩:=h1
 obtain⟨n2,rfl⟩:=h2
 obtain⟨n3,hb3,rfl⟩:=h3
 obtain⟨n4,rfl⟩:=h4
 obtain⟨n5,rfl⟩:=h5
 obtain⟨n6,hb6,rfl⟩:=h6
 exact Go.Proofs.YtmmlicjkdeankaaGreatDoor.topSpread n1 n2 n3 (u8r hb3).1 (u8r hb3).2 n4 n5 n6 (i64r hb6)
theorem topSpread_holds:Rows.TopSpreadSaid :=
 OpenClaim.holds_of_cond 3 Tryz.f3 rfl rfl rfl rfl rfl rfl rfl ⟨rfl,rfl,rfl,rfl,rfl⟩ rfl rfl rfl rfl rfl (by kernel_rfl) Tryz.func3 (by kernel_rfl)
  (of_decide_eq_true (by kernel_rfl)) (by unfold Func.isWrapper;rw [if_neg (of_decide_eq_false (by kernel_rfl))];exact⟨rfl,rfl⟩)
  (fun os started H enc _ F0=>by rw [OpenClaim.pre_eq_preRow];exact topSpread_lifted os started H enc F0)
theorem topSpread_card:Rows.TopSpreadCardSaid :=
 Claim7.holds_tied_plain_at .later [] [.data,.pinned] true _ true
  topSpread_holds (fun _ h=>by cases h) (by kernel_rfl) (fun _ h=>by cases h) topSpread_row_tie rfl ⟨rfl,rfl⟩ (by kernel_rfl) rfl
  (fun f fn hf hfn=>by
   obtain rfl:f=3:=Option.some.inj ((show Tryz.prog.funcNamed Rows.topSpreadRow.func=some 3 by kernel_rfl).symm.trans hf) |>.symm
   obtain rfl:fn=Tryz.f3:=(Option.some.inj (Tryz.func3.symm.trans hfn)).symm
   exact⟨by kernel_rfl,fun j t ht=>by
    rw [<- Array.getElem?_toList,params3] at ht
    match j with
    | 0=>simp at ht;subst ht;exact(show Tryz.prog.wantsStandIn 22=false by kernel_rfl)
    | 1=>simp at ht;subst ht;exact(show Tryz.prog.wantsStandIn 22=false by kernel_rfl)
    | 2=>simp at ht;subst ht;exact(show Tryz.prog.wantsStandIn 5=false by kernel_rfl)
    | 3=>simp at ht;subst ht;exact(show Tryz.prog.wantsStandIn 23=false by kernel_rfl)
    | 4=>simp at ht;subst ht;exact(show Tryz.prog.wantsStandIn 24=false by kernel_rfl)
    | 5=>simp at ht;subst ht;exact(show Tryz.prog.wantsStandIn 3=false by kernel_rfl)
    | j+6=>simp at ht⟩)
  (by kernel_rfl)
end

end Go.Proofs.YtmmlicjkdeankaaGreatDoor
