/- Part of the proof: S574, S595. -/
import Derived.Test.YthimbimilnfdnaaGreatDoorJ
set_option linter.unnecessarySimpa false
set_option linter.unusedVariables false
set_option linter.unusedSimpArgs false
namespace Go.Proofs.YthimbimilnfdnaaGreatDoor
open Go Go.Proofs.YthimbimilnfdnaaGreatDoor.AL
section
open Go Go.Proofs.YthimbimilnfdnaaGreatDoor.AL Go.ChangeShapes Go.WideShapes Go.ChangeAt Go.RowKit Go.Lib Go.Shelf
theorem u8r{n:Int}(h:IntKind.u8.min≤n∧n≤IntKind.u8.max):0≤n∧n≤255:=by
 have h1:IntKind.u8.min=0:=by decide
 have h2:IntKind.u8.max=255:=by decide
 omega
theorem utU32:Tryz.prog.underlying 70=some (.int .u32):=by kernel_rfl
theorem sU32:Sees Tryz.prog 70 (fun x=>∃ n:Int,(IntKind.u32.min≤n∧n≤IntKind.u32.max)∧x=.lit (.int .u32 n)):=sees_int utU32
def wPe:Value:=.agg #[.slice none 0 0]
theorem params9:Tryz.f9.params.toList=[48,5,70]:=by kernel_rfl
theorem results9:Tryz.f9.resultTypes.toList=[4]:=by kernel_rfl
set_option maxRecDepth 1000000 in
theorem spreadMore_met(os:Os) (args:Array Value):laidMet Tryz.prog Rows.spreadMoreRow.laid ((laidWorld os).forCall (fun _ _=>0) ⟨#[],args,[]⟩).memory :=
 (LaidIn.of_run [2,1] 8 (by kernel_rfl) (by kernel_rfl) (by kernel_rfl) (by kernel_rfl)).met
theorem spreadMore_witness(os:Os){H:Type}(enc:TypeId×Value→H) :
  (OpenSpec.ofChange Rows.spreadMoreSpec).preRow enc Tryz.prog Tryz.f9 Rows.spreadMoreRow.domain false Rows.spreadMoreRow.laid ((laidWorld os).forCall (fun _ _=>0) ⟨#[],#[wPe,.int .u8 0,.int .u32 0],[]⟩).memory #[wPe,.int .u8 0,.int .u32 0]:=by
 have hw:(DataW.whole enc Tryz.prog ((laidWorld os).forCall (fun _ _=>0) ⟨#[],#[wPe,.int .u8 0,.int .u32 0],[]⟩).memory Tryz.f9.params.toList (OpenSpec.ofChange Rows.spreadMoreSpec).vars false (#[wPe,.int .u8 0,.int .u32 0]:Array Value).toList 8).map (fun x=>(x.1,x.2.1)) =
   some ([.agg [.nil],.lit (.int .u8 0),.lit (.int .u32 0)],[]):=by kernel_rfl
 obtain⟨⟨x1,x2,x3⟩,hx,hx1⟩:=Option.map_eq_some_iff.1 hw
 simp only [Prod.mk.injEq] at hx1
 obtain⟨rfl,rfl⟩:=hx1
 exact OpenSpec.preRow_of_cond 8 hx (by kernel_rfl) (fun k hk=>by cases hk) (by kernel_rfl) (spreadMore_met os _)
set_option maxRecDepth 100000 in
theorem spreadMore_lifted(os:Os) (started:os.Started) (H:Type) (enc:TypeId×Value→H) (F:Stop.Interp) :
  ReturnsInHanded {} Tryz.checked os 9 .any ((OpenSpec.ofChange Rows.spreadMoreSpec).preRow enc Tryz.prog Tryz.f9 Rows.spreadMoreRow.domain false Rows.spreadMoreRow.laid) (((OpenSpec.ofChange Rows.spreadMoreSpec).at F).post enc Tryz.prog Tryz.f9 false true false false):=by
 refine returnsInHanded_of_row (C:=Tryz.checked) (s:=(OpenSpec.ofChange Rows.spreadMoreSpec)) (F:=F) own started (by kernel_rfl) Tryz.func9
  (witness_row_atRef (enc:=enc) (C:=Tryz.checked) false (laidWorld os) #[wPe,.int .u8 0,.int .u32 0] rfl (by kernel_rfl) (by kernel_rfl) (by kernel_rfl) (spreadMore_witness os enc)) ?_
 intro W base args ds gs before hval hW _ _ _ hL _ _
 refine law_contract laidOut params9 results9 (by kernel_rfl) rfl (fun ds h=>by match ds,h with | [_,_,_],_=>rfl) (by kernel_rfl) (.cons sPe (.cons sU8i (.cons sU32 .nil))) (fun ds hK=>?_) W base args ds gs before (glOk_of hL) hval hW
 cases hK
 rename_i h1 hK
 cases hK
 rename_i h2 hK
 cases hK
 rename_i h3 hK
 cases hK
 obtain⟨n1,rfl⟩:=h1
 obtain⟨n2,hb2,rfl⟩:=h2
 obtain⟨n3,hb3,rfl⟩:=h3
 exact Go.Proofs.YthimbimilnfdnaaGreatDoor.lMore n1 n2 n3 (u8r hb2).1 (u8r hb2).2
theorem spreadMore_holds:Rows.SpreadMoreSaid :=
 OpenClaim.holds_of_cond 9 Tryz.f9 rfl rfl rfl rfl rfl rfl rfl ⟨rfl,rfl,rfl,rfl,rfl⟩ rfl rfl rfl rfl rfl (by kernel_rfl) Tryz.func9 (by kernel_rfl)
  (of_decide_eq_true (by kernel_rfl)) (by unfold Func.isWrapper;rw [if_neg (of_decide_eq_false (by kernel_rfl))];exact⟨rfl,rfl⟩)
  (fun os started H enc _ F0=>by rw [OpenClaim.pre_eq_preRow];exact spreadMore_lifted os started H enc F0)
theorem spreadMore_card:Rows.SpreadMoreCardSaid :=
 Claim7.holds_tied_plain_at .later [] [.data,.pinned] true _ true
  spreadMore_holds (fun _ h=>by cases h) (by kernel_rfl) (fun _ h=>by cases h) spreadMore_row_tie rfl ⟨rfl,rfl⟩ (by kernel_rfl) rfl
  (fun f fn hf hfn=>by
   obtain rfl:f=9:=Option.some.inj ((show Tryz.prog.funcNamed Rows.spreadMoreRow.func=some 9 by kernel_rfl).symm.trans hf) |>.symm
   obtain rfl:fn=Tryz.f9:=(Option.some.inj (Tryz.func9.symm.trans hfn)).symm
   exact⟨by kernel_rfl,fun j t ht=>by
    rw [← Array.getElem?_toList,params9] at ht
    match j with
    | 0=>simp at ht;subst ht;exact(show Tryz.prog.wantsStandIn 48=false by kernel_rfl)
    | 1=>simp at ht;subst ht;exact(show Tryz.prog.wantsStandIn 5=false by kernel_rfl)
    | 2=>simp at ht;subst ht;exact(show Tryz.prog.wantsStandIn 70=false by kernel_rfl)
    | j+3=>simp at ht⟩)
  (by kernel_rfl)
end

end Go.Proofs.YthimbimilnfdnaaGreatDoor
