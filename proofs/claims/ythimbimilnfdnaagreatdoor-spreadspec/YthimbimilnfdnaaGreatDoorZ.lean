/- Part of the proof: S572. -/
import Derived.Test.YthimbimilnfdnaaGreatDoorJ
set_option linter.unnecessarySimpa false
set_option linter.unusedVariables false
set_option linter.unusedSimpArgs false
namespace Go.Proofs.YthimbimilnfdnaaGreatDoor
open Go Go.Proofs.YthimbimilnfdnaaGreatDoor.AL
section
open Go Go.Proofs.YthimbimilnfdnaaGreatDoor.AL Go.ChangeShapes Go.WideShapes Go.ChangeAt Go.RowKit Go.Lib Go.Shelf
def wRm:Value:=.agg #[.slice none 0 0,.slice none 0 0,.slice none 0 0]
def wMv:Value:=.agg #[.int .i64 0,.int .i64 0,.int .i64 0,.int .i64 0,.int .i64 0,.int .i64 0,.int .i64 0,.int .i64 0,.int .i64 0,.int .i64 0,.string ⟨#[]⟩]
theorem params3:Tryz.f3.params.toList=[3,28,36]:=by kernel_rfl
theorem results3:Tryz.f3.resultTypes.toList=[4]:=by kernel_rfl
set_option maxRecDepth 1000000 in
theorem spreadSpec_met(os:Os) (args:Array Value):laidMet Tryz.prog Rows.spreadSpecRow.laid ((laidWorld os).forCall (fun _ _=>0) ⟨#[],args,[]⟩).memory :=
 (LaidIn.of_run [2,1] 8 (by kernel_rfl) (by kernel_rfl) (by kernel_rfl) (by kernel_rfl)).met
theorem spreadSpec_witness(os:Os){H:Type}(enc:TypeId×Value→H) :
  (OpenSpec.ofChange Rows.spreadSpecSpec).preRow enc Tryz.prog Tryz.f3 Rows.spreadSpecRow.domain false Rows.spreadSpecRow.laid ((laidWorld os).forCall (fun _ _=>0) ⟨#[],#[.int .i64 0,wRm,wMv],[]⟩).memory #[.int .i64 0,wRm,wMv]:=by
 have hw:(DataW.whole enc Tryz.prog ((laidWorld os).forCall (fun _ _=>0) ⟨#[],#[.int .i64 0,wRm,wMv],[]⟩).memory Tryz.f3.params.toList (OpenSpec.ofChange Rows.spreadSpecSpec).vars false (#[.int .i64 0,wRm,wMv]:Array Value).toList 8).map (fun x=>(x.1,x.2.1)) =
   some ([.lit (.int .i64 0),.agg [.nil,.agg [.nil,.nil]],.agg [.lit (.int .i64 0),.lit (.int .i64 0),.lit (.int .i64 0),.lit (.int .i64 0),.agg [.lit (.int .i64 0),.lit (.int .i64 0),.agg [.lit (.int .i64 0),.lit (.int .i64 0),.agg [.lit (.int .i64 0),.lit (.int .i64 0),.lit (.string [])]]]]],[]):=by kernel_rfl
 obtain⟨⟨x1,x2,x3⟩,hx,hx1⟩:=Option.map_eq_some_iff.1 hw
 simp only [Prod.mk.injEq] at hx1
 obtain⟨rfl,rfl⟩:=hx1
 exact OpenSpec.preRow_of_cond 8 hx (by kernel_rfl) (fun k hk=>by cases hk) (by kernel_rfl) (spreadSpec_met os _)
set_option maxRecDepth 100000 in
theorem spreadSpec_lifted(os:Os) (started:os.Started) (H:Type) (enc:TypeId×Value→H) (F:Stop.Interp) :
  ReturnsInHanded {} Tryz.checked os 3 .any ((OpenSpec.ofChange Rows.spreadSpecSpec).preRow enc Tryz.prog Tryz.f3 Rows.spreadSpecRow.domain false Rows.spreadSpecRow.laid) (((OpenSpec.ofChange Rows.spreadSpecSpec).at F).post enc Tryz.prog Tryz.f3 false true false false):=by
 refine returnsInHanded_of_row (C:=Tryz.checked) (s:=(OpenSpec.ofChange Rows.spreadSpecSpec)) (F:=F) own started (by kernel_rfl) Tryz.func3
  (witness_row_atRef (enc:=enc) (C:=Tryz.checked) false (laidWorld os) #[.int .i64 0,wRm,wMv] rfl (by kernel_rfl) (by kernel_rfl) (by kernel_rfl) (spreadSpec_witness os enc)) ?_
 intro W base args ds gs before hval hW _ _ _ hL _ _
 refine law_contract laidOut params3 results3 (by kernel_rfl) rfl (fun ds h=>by match ds,h with | [_,_,_],_=>rfl) (by kernel_rfl) (.cons sI64 (.cons sRm (.cons sMv .nil))) (fun ds hK=>?_) W base args ds gs before (glOk_of hL) hval hW
 cases hK
 rename_i h1 hK
 cases hK
 rename_i h2 hK
 cases hK
 rename_i h3 hK
 cases hK
 obtain⟨n1,hb1,rfl⟩:=h1
 obtain⟨n2,rfl⟩:=h2
 obtain⟨n3,rfl⟩:=h3
 exact Go.Proofs.YthimbimilnfdnaaGreatDoor.spreadSpec n1 n2 n3
theorem spreadSpec_holds:Rows.SpreadSpecSaid :=
 OpenClaim.holds_of_cond 3 Tryz.f3 rfl rfl rfl rfl rfl rfl rfl ⟨rfl,rfl,rfl,rfl,rfl⟩ rfl rfl rfl rfl rfl (by kernel_rfl) Tryz.func3 (by kernel_rfl)
  (of_decide_eq_true (by kernel_rfl)) (by unfold Func.isWrapper;rw [if_neg (of_decide_eq_false (by kernel_rfl))];exact⟨rfl,rfl⟩)
  (fun os started H enc _ F0=>by rw [OpenClaim.pre_eq_preRow];exact spreadSpec_lifted os started H enc F0)
theorem spreadSpec_card:Rows.SpreadSpecCardSaid :=
 Claim7.holds_tied_plain_at .later [] [.data,.pinned] true _ true
  spreadSpec_holds (fun _ h=>by cases h) (by kernel_rfl) (fun _ h=>by cases h) spreadSpec_row_tie rfl ⟨rfl,rfl⟩ (by kernel_rfl) rfl
  (fun f fn hf hfn=>by
   obtain rfl:f=3:=Option.some.inj ((show Tryz.prog.funcNamed Rows.spreadSpecRow.func=some 3 by kernel_rfl).symm.trans hf) |>.symm
   obtain rfl:fn=Tryz.f3:=(Option.some.inj (Tryz.func3.symm.trans hfn)).symm
   exact⟨by kernel_rfl,fun j t ht=>by
    rw [← Array.getElem?_toList,params3] at ht
    match j with
    | 0=>simp at ht;subst ht;exact(show Tryz.prog.wantsStandIn 3=false by kernel_rfl)
    | 1=>simp at ht;subst ht;exact(show Tryz.prog.wantsStandIn 28=false by kernel_rfl)
    | 2=>simp at ht;subst ht;exact(show Tryz.prog.wantsStandIn 36=false by kernel_rfl)
    | j+3=>simp at ht⟩)
  (by kernel_rfl)
end

end Go.Proofs.YthimbimilnfdnaaGreatDoor
