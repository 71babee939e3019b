/- Proved here: the given statement of TopStable (its card, Rows.TopStableCardSaid) holds of the given program for all arguments; no condition of ours stands ahead of it. -/
import Derived.Test.YtloccchppmffpaaGreatDoorK
set_option linter.unnecessarySimpa false
set_option linter.unusedVariables false
set_option linter.unusedSimpArgs false
set_option linter.defProp false
set_option maxRecDepth 20000
set_option maxHeartbeats 8000000
namespace Go.Proofs.YtloccchppmffpaaGreatDoor
open Go Go.Proofs.YtloccchppmffpaaGreatDoor.AL
section
open Go Go.Proofs.YtloccchppmffpaaGreatDoor.AL Go.ChangeShapes Go.WideShapes Go.ChangeAt Go.RowKit Go.Lib Go.Shelf
def xx:Value:=.agg #[.string ⟨#[]⟩,.slice none 0 0,.string ⟨#[]⟩,.int .i64 0,.slice none 0 0,.slice none 0 0]
theorem params3:Tryz.f3.params.toList=[22,23,25,3,3,3,26,31,32]:=by kernel_rfl
theorem results3:Tryz.f3.resultTypes.toList=[4]:=by kernel_rfl
theorem ahJ(a:Os){H:Type}(b:TypeId×Value->H) :
  (OpenSpec.ofChange Rows.topStableSpec).preRow b Tryz.prog Tryz.f3 Rows.topStableRow.domain false Rows.topStableRow.laid ((Aw a).forCall (fun _ _=>0) ⟨#[],#[.slice none 0 0,.slice none 0 0,.agg #[.int .i64 0],.int .i64 0,.int .i64 0,.int .i64 0,.slice none 0 0,xx,.slice none 0 0],[]⟩).memory #[.slice none 0 0,.slice none 0 0,.agg #[.int .i64 0],.int .i64 0,.int .i64 0,.int .i64 0,.slice none 0 0,xx,.slice none 0 0]:=by
 have d:(DataW.whole b Tryz.prog ((Aw a).forCall (fun _ _=>0) ⟨#[],#[.slice none 0 0,.slice none 0 0,.agg #[.int .i64 0],.int .i64 0,.int .i64 0,.int .i64 0,.slice none 0 0,xx,.slice none 0 0],[]⟩).memory Tryz.f3.params.toList (OpenSpec.ofChange Rows.topStableSpec).vars false (#[.slice none 0 0,.slice none 0 0,.agg #[.int .i64 0],.int .i64 0,.int .i64 0,.int .i64 0,.slice none 0 0,xx,.slice none 0 0]:Array Value).toList 8).map (fun x=>(x.1,x.2.1)) =some ([.nil,.nil,.agg [.lit (.int .i64 0)],.lit (.int .i64 0),.lit (.int .i64 0),.lit (.int .i64 0),.nil,.agg [.lit (.string []),.nil,.lit (.string []),.lit (.int .i64 0),.nil,.nil],.nil],[]):=by kernel_rfl
 obtain⟨⟨g,h,i⟩,e,c⟩:=bZ.1 d;simp only [ee] at c;obtain⟨rfl,rfl⟩:=c;exact OpenSpec.preRow_of_cond 8 e (by kernel_rfl) (fun k f=>by cases f) (by kernel_rfl) (ahI a _)
set_option maxRecDepth 100000 in
theorem ahK(b:Os)(f:b.Started)(H:Type)(c:TypeId×Value->H)(e:Stop.Interp) :
  ReturnsInHanded {} Tryz.checked b 3 .any ((OpenSpec.ofChange Rows.topStableSpec).preRow c Tryz.prog Tryz.f3 Rows.topStableRow.domain false Rows.topStableRow.laid) (((OpenSpec.ofChange Rows.topStableSpec).at e).post c Tryz.prog Tryz.f3 false true false false):=by
 refine returnsInHanded_of_row (C:=Tryz.checked) (s:=(OpenSpec.ofChange Rows.topStableSpec)) (F:=e) own f (by kernel_rfl) Tryz.func3
  (witness_row_atRef (enc:=c) (C:=Tryz.checked) false (Aw b) #[.slice none 0 0,.slice none 0 0,.agg #[.int .i64 0],.int .i64 0,.int .i64 0,.int .i64 0,.slice none 0 0,xx,.slice none 0 0] rfl (by kernel_rfl) (by kernel_rfl) (by kernel_rfl) (ahJ b c)) ?_
 intro W g i d j k l m _ _ _ n _ _;refine Xz laidOut params3 results3 (by kernel_rfl) rfl (fun d h=>by match d,h with | [_,_,_,_,_,_,_,_,_],_=>rfl) (by kernel_rfl) (.cons abK (.cons sBs (.cons sPm (.cons GW (.cons GW (.cons GW (.cons ahx (.cons sGr (.cons ahw .nil))))))))) (fun d a=>?_) W g i d j k (ahH n) l m;cases a;rename_i o a;cases a;rename_i p a;cases a;rename_i q a;cases a;rename_i r a;cases a;rename_i t a;cases a;rename_i u a;cases a;rename_i v a;cases a;rename_i w a;cases a;rename_i x a;cases a;obtain⟨y,rfl⟩:=o;obtain⟨z,rfl⟩:=p;obtain⟨A,rfl⟩:=q;obtain⟨B,K,rfl⟩:=r;obtain⟨D,L,rfl⟩:=t;obtain⟨E,M,rfl⟩:=u;obtain⟨G,rfl⟩:=v;obtain⟨I,rfl⟩:=w;obtain⟨J,rfl⟩:=x;exact Go.Proofs.YtloccchppmffpaaGreatDoor.ahy y z A B D E G I J
theorem ahL:joinedFacts Tryz.pinned.checked.prog 3 Tryz.f3 (OpenSpec.ofChange Rows.topStableSpec).bare Rows.topStableRow=true:=by
 unfold joinedFacts;simp only [ax]
 repeat' apply And.intro
 all_goals as_aux_lemma=>kernel_rfl
theorem ahM:Rows.TopStableSaid :=
 OpenClaim.holds_of_cond 3 Tryz.f3 rfl rfl rfl rfl rfl rfl rfl ⟨rfl,rfl,rfl,rfl,rfl⟩ rfl rfl rfl rfl rfl (by kernel_rfl) Tryz.func3 ahL
  (td (by kernel_rfl)) (by unfold Func.isWrapper;rw [ab (PV (by kernel_rfl))];exact⟨rfl,rfl⟩)
  (fun a b H c _ d=>by rw [OpenClaim.pre_eq_preRow];exact ahK a b H c d)
theorem topStable_card:Rows.TopStableCardSaid :=
 Claim7.holds_tied_plain_at .later [] [.data,.listed,.data,.pinned] true _ true
  ahM (fun _ h=>by cases h) (by kernel_rfl) (fun _ h=>by cases h) topStable_row_tie rfl ⟨rfl,rfl⟩ (by kernel_rfl) rfl
  (fun f b c d=>by
   obtain rfl:f=3:=tc ((show Tryz.prog.funcNamed Rows.topStableRow.func=some 3 by kernel_rfl).symm.trans c) |>.symm;obtain rfl:b=Tryz.f3:=(tc (Tryz.func3.symm.trans d)).symm;exact⟨by kernel_rfl,fun j t a=>by
    rw [<- sX,params3] at a
    match j with
    | 0=>simp at a;subst a;exact(show Tryz.prog.wantsStandIn 22=false by kernel_rfl)
    | 1=>simp at a;subst a;exact(show Tryz.prog.wantsStandIn 23=false by kernel_rfl)
    | 2=>simp at a;subst a;exact(show Tryz.prog.wantsStandIn 25=false by kernel_rfl)
    | 3=>simp at a;subst a;exact(show Tryz.prog.wantsStandIn 3=false by kernel_rfl)
    | 4=>simp at a;subst a;exact(show Tryz.prog.wantsStandIn 3=false by kernel_rfl)
    | 5=>simp at a;subst a;exact(show Tryz.prog.wantsStandIn 3=false by kernel_rfl)
    | 6=>simp at a;subst a;exact(show Tryz.prog.wantsStandIn 26=false by kernel_rfl)
    | 7=>simp at a;subst a;exact(show Tryz.prog.wantsStandIn 31=false by kernel_rfl)
    | 8=>simp at a;subst a;exact(show Tryz.prog.wantsStandIn 32=false by kernel_rfl)
    | j+9=>simp at a⟩)
  (by kernel_rfl)
end

end Go.Proofs.YtloccchppmffpaaGreatDoor
