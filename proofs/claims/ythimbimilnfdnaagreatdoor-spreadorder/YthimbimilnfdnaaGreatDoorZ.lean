/- Part of the proof: S574, S593. -/
import Derived.Test.YthimbimilnfdnaaGreatDoorI
set_option linter.unnecessarySimpa false
set_option linter.unusedVariables false
set_option linter.unusedSimpArgs false
namespace Go.Proofs.YthimbimilnfdnaaGreatDoor
open Go Go.Proofs.YthimbimilnfdnaaGreatDoor.AL
section
open Go Go.Proofs.YthimbimilnfdnaaGreatDoor.AL Go.ChangeShapes Go.WideShapes Go.ChangeAt Go.RowKit Go.Lib Go.Shelf
theorem u8r{n:Int}(h:IntKind.u8.min≤n∧n≤IntKind.u8.max):0≤n∧n≤255:=by
 have h1:IntKind.u8.min=0:=by decide
 have h2:IntKind.u8.max=255:=by decide
 omega
theorem params7:Tryz.f7.params.toList=[5,54,55]:=by kernel_rfl
theorem results7:Tryz.f7.resultTypes.toList=[4]:=by kernel_rfl
set_option maxRecDepth 1000000 in
theorem spreadOrder_met(os:Os) (args:Array Value):laidMet Tryz.prog Rows.spreadOrderRow.laid ((laidWorld os).forCall (fun _ _=>0) ⟨#[],args,[]⟩).memory :=
 (LaidIn.of_run [2,1] 8 (by kernel_rfl) (by kernel_rfl) (by kernel_rfl) (by kernel_rfl)).met
theorem spreadOrder_witness(os:Os){H:Type}(enc:TypeId×Value→H) :
  (OpenSpec.ofChange Rows.spreadOrderSpec).preRow enc Tryz.prog Tryz.f7 Rows.spreadOrderRow.domain false Rows.spreadOrderRow.laid ((laidWorld os).forCall (fun _ _=>0) ⟨#[],#[.int .u8 0,.slice none 0 0,.slice none 0 0],[]⟩).memory #[.int .u8 0,.slice none 0 0,.slice none 0 0]:=by
 have hw:(DataW.whole enc Tryz.prog ((laidWorld os).forCall (fun _ _=>0) ⟨#[],#[.int .u8 0,.slice none 0 0,.slice none 0 0],[]⟩).memory Tryz.f7.params.toList (OpenSpec.ofChange Rows.spreadOrderSpec).vars false (#[.int .u8 0,.slice none 0 0,.slice none 0 0]:Array Value).toList 8).map (fun x=>(x.1,x.2.1)) =
   some ([.lit (.int .u8 0),.nil,.nil],[]):=by kernel_rfl
 obtain⟨⟨x1,x2,x3⟩,hx,hx1⟩:=Option.map_eq_some_iff.1 hw
 simp only [Prod.mk.injEq] at hx1
 obtain⟨rfl,rfl⟩:=hx1
 exact OpenSpec.preRow_of_cond 8 hx (by kernel_rfl) (fun k hk=>by cases hk) (by kernel_rfl) (spreadOrder_met os _)
set_option maxRecDepth 100000 in
theorem spreadOrder_lifted(os:Os) (started:os.Started) (H:Type) (enc:TypeId×Value→H) (F:Stop.Interp) :
  ReturnsInHanded {} Tryz.checked os 7 .any ((OpenSpec.ofChange Rows.spreadOrderSpec).preRow enc Tryz.prog Tryz.f7 Rows.spreadOrderRow.domain false Rows.spreadOrderRow.laid) (((OpenSpec.ofChange Rows.spreadOrderSpec).at F).post enc Tryz.prog Tryz.f7 false true false false):=by
 refine returnsInHanded_of_row (C:=Tryz.checked) (s:=(OpenSpec.ofChange Rows.spreadOrderSpec)) (F:=F) own started (by kernel_rfl) Tryz.func7
  (witness_row_atRef (enc:=enc) (C:=Tryz.checked) false (laidWorld os) #[.int .u8 0,.slice none 0 0,.slice none 0 0] rfl (by kernel_rfl) (by kernel_rfl) (by kernel_rfl) (spreadOrder_witness os enc)) ?_
 intro W base args ds gs before hval hW _ _ _ hL _ _
 refine law_contract laidOut params7 results7 (by kernel_rfl) rfl (fun ds h=>by match ds,h with | [_,_,_],_=>rfl) (by kernel_rfl) (.cons sU8i (.cons sMvs (.cons sBs8 .nil))) (fun ds hK=>?_) W base args ds gs before (glOk_of hL) hval hW
 cases hK
 rename_i h1 hK
 cases hK
 rename_i h2 hK
 cases hK
 rename_i h3 hK
 cases hK
 obtain⟨n1,hb1,rfl⟩:=h1
 obtain⟨n2,rfl⟩:=h2
 obtain⟨n3,rfl⟩:=h3
 exact Go.Proofs.YthimbimilnfdnaaGreatDoor.lOrder n1 (u8r hb1).1 (u8r hb1).2 n2 n3
theorem spreadOrder_holds:Rows.SpreadOrderSaid :=
 OpenClaim.holds_of_cond 7 Tryz.f7 rfl rfl rfl rfl rfl rfl rfl ⟨rfl,rfl,rfl,rfl,rfl⟩ rfl rfl rfl rfl rfl (by kernel_rfl) Tryz.func7 (by kernel_rfl)
  (of_decide_eq_true (by kernel_rfl)) (by unfold Func.isWrapper;rw [if_neg (of_decide_eq_false (by kernel_rfl))];exact⟨rfl,rfl⟩)
  (fun os started H enc _ F0=>by rw [OpenClaim.pre_eq_preRow];exact spreadOrder_lifted os started H enc F0)
theorem spreadOrder_card:Rows.SpreadOrderCardSaid :=
 Claim7.holds_tied_plain_at .later [] [.data,.pinned] true _ true
  spreadOrder_holds (fun _ h=>by cases h) (by kernel_rfl) (fun _ h=>by cases h) spreadOrder_row_tie rfl ⟨rfl,rfl⟩ (by kernel_rfl) rfl
  (fun f fn hf hfn=>by
   obtain rfl:f=7:=Option.some.inj ((show Tryz.prog.funcNamed Rows.spreadOrderRow.func=some 7 by kernel_rfl).symm.trans hf) |>.symm
   obtain rfl:fn=Tryz.f7:=(Option.some.inj (Tryz.func7.symm.trans hfn)).symm
   exact⟨by kernel_rfl,fun j t ht=>by
    rw [← Array.getElem?_toList,params7] at ht
    match j with
    | 0=>simp at ht;subst ht;exact(show Tryz.prog.wantsStandIn 5=false by kernel_rfl)
    | 1=>simp at ht;subst ht;exact(show Tryz.prog.wantsStandIn 54=false by kernel_rfl)
    | 2=>simp at ht;subst ht;exact(show Tryz.prog.wantsStandIn 55=false by kernel_rfl)
    | j+3=>simp at ht⟩)
  (by kernel_rfl)
end

end Go.Proofs.YthimbimilnfdnaaGreatDoor
