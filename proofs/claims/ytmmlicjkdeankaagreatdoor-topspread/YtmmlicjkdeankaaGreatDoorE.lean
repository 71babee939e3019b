/- Part of the proof: AL35, AL36, AL37, AL38, AL39, AL40, AL41, AL42, AL43, AL44, AL45, AL46. -/
import Derived.Deep.Slices
import Derived.DataReads
import Derived.Deep.Strs
import Derived.OpenShut
import Derived.ProofKit
import Derived.ChangeCalls
import Derived.Test.YtmmlicjkdeankaaGreatDoorD
set_option linter.unnecessarySimpa false
set_option linter.unusedVariables false
set_option linter.unusedSimpArgs false
namespace Go.Proofs.YtmmlicjkdeankaaGreatDoor.AL
open Go
section
theorem leD_self(x:D):LeD x x↔True:=⟨fun _=>trivial,fun _=>LeD.refl x⟩
theorem leD_nil(a b:Nat):LeD (.nil a) (.sl b [])↔True:=⟨fun _=>trivial,fun _=>LeD.nil' a b⟩
theorem leD_of_eq{x y:D}(h:x=y):LeD x y:=h ▸ LeD.refl x
theorem cells_lit(v:Value):(D.lit v).cells=[.lit v]:=rfl
theorem cells_nil(n:Nat):(D.nil n).cells=[.nil n]:=rfl
theorem cells_sl(n:Nat) (es:List D):(D.sl n es).cells=[.sl n es]:=rfl
theorem cells_agg(cs:List D):(D.agg cs).cells=cs:=rfl
theorem cells_ip(x:D):(D.ip x).cells=[.ip x]:=rfl
theorem cells_fn(f:Fn) (a b:List D):(D.fn f a b).cells=[.fn f a b]:=rfl
theorem cells_ifc(t:TypeId) (x:D):(D.ifc t x).cells=[.ifc t x]:=rfl
theorem isAgg_lit(v:Value):(D.lit v).isAgg=false:=rfl
theorem isAgg_nil(n:Nat):(D.nil n).isAgg=false:=rfl
theorem isAgg_sl(n:Nat) (es:List D):(D.sl n es).isAgg=false:=rfl
theorem isAgg_agg(cs:List D):(D.agg cs).isAgg=true:=rfl
theorem isAgg_ip(x:D):(D.ip x).isAgg=false:=rfl
theorem isAgg_fn(f:Fn) (a b:List D):(D.fn f a b).isAgg=false:=rfl
theorem isAgg_ifc(t:TypeId) (x:D):(D.ifc t x).isAgg=false:=rfl
theorem one_lit(v:Value):(D.lit v).one=true:=rfl
theorem one_nil(n:Nat):(D.nil n).one=true:=rfl
theorem one_sl(n:Nat) (es:List D):(D.sl n es).one=true:=rfl
theorem one_agg(cs:List D):(D.agg cs).one=false:=rfl
theorem one_ip(x:D):(D.ip x).one=true:=rfl
theorem one_fn(f:Fn) (a b:List D):(D.fn f a b).one=true:=rfl
theorem one_ifc(t:TypeId) (x:D):(D.ifc t x).one=true:=rfl
theorem acells_d(x:D):(AV.d x).cells=x.cells.map .d:=rfl
theorem acells_own(r n:Nat) (es:List D):(AV.own r n es).cells=[.own r n es]:=rfl
theorem acells_agg(cs:List AV):(AV.agg cs).cells=cs:=rfl
theorem acells_ptr(n o:Nat):(AV.ptr n o).cells=[.ptr n o]:=rfl
theorem acells_bsl(a b c d e:Nat):(AV.bsl a b c d e).cells=[.bsl a b c d e]:=rfl
theorem acells_fn(f:Fn) (a b:List AV):(AV.fn f a b).cells=[.fn f a b]:=rfl
theorem aone_d(x:D):(AV.d x).one=x.one:=rfl
theorem aone_own(r n:Nat) (es:List D):(AV.own r n es).one=true:=rfl
theorem aone_agg(cs:List AV):(AV.agg cs).one=false:=rfl
theorem aone_ptr(n o:Nat):(AV.ptr n o).one=true:=rfl
theorem aone_bsl(a b c d e:Nat):(AV.bsl a b c d e).one=true:=rfl
theorem aone_fn(f:Fn) (a b:List AV):(AV.fn f a b).one=true:=rfl
theorem noTup_lit(v:Value):(AV.d (.lit v)).noTup=true:=rfl
theorem noTup_nil(n:Nat):(AV.d (.nil n)).noTup=true:=rfl
theorem noTup_sl(n:Nat) (es:List D):(AV.d (.sl n es)).noTup=true:=rfl
theorem noTup_dagg(cs:List D):(AV.d (.agg cs)).noTup=true:=rfl
theorem noTup_ip(x:D):(AV.d (.ip x)).noTup=true:=rfl
theorem noTup_dfn(f:Fn) (a b:List D):(AV.d (.fn f a b)).noTup=true:=rfl
theorem noTup_ifc(t:TypeId) (x:D):(AV.d (.ifc t x)).noTup=true:=rfl
theorem noTup_own(r n:Nat) (es:List D):(AV.own r n es).noTup=true:=rfl
theorem noTup_agg(cs:List AV):(AV.agg cs).noTup=true:=rfl
theorem noTup_ptr(n o:Nat):(AV.ptr n o).noTup=true:=rfl
theorem noTup_bsl(a b c d e:Nat):(AV.bsl a b c d e).noTup=true:=rfl
theorem acells_spare(a b c:Nat):(AV.spare a b c).cells=[.spare a b c]:=rfl
theorem aone_spare(a b c:Nat):(AV.spare a b c).one=true:=rfl
theorem noTup_spare(a b c:Nat):(AV.spare a b c).noTup=true:=rfl
theorem sliceR_nil(n sz:Nat) (es:List D):sliceR (.d (.nil n)) sz es=.d (.nil n):=rfl
theorem sliceR_sl(n sz:Nat) (xs es:List D):sliceR (.d (.sl n xs)) sz es=.d (.sl sz es):=rfl
theorem sliceR_own(r n sz:Nat) (xs es:List D):sliceR (.own r n xs) sz es=.d (.sl sz es):=rfl
attribute [simp] acells_spare aone_spare noTup_spare sliceR_nil sliceR_sl sliceR_own
theorem acells_mp(n:Nat):(AV.mp n).cells=[.mp n]:=rfl
theorem aone_mp(n:Nat):(AV.mp n).one=true:=rfl
theorem noTup_mp(n:Nat):(AV.mp n).noTup=true:=rfl
theorem lookV_t(v:AV) (b:Bool):lookV true v b=.tup [v,.d (.lit (.bool b))]:=rfl
theorem lookV_f(v:AV) (b:Bool):lookV false v b=v:=rfl
theorem kIs_int(k k':IntKind) (n:Int):kIs (.int k) (.int k' n)=decide (k'=k):=rfl
theorem kIs_bool(b:Bool):kIs .bool (.bool b)=true:=rfl
theorem kIs_str(b:ByteArray):kIs .str (.string b)=true:=rfl
theorem kSame_int(k k':IntKind) (a b:Int):kSame (.int k a) (.int k' b)=if k=k' then some (a == b) else none:=rfl
theorem kSame_str(a b:ByteArray):kSame (.string a) (.string b)=some (a == b):=rfl
theorem kSame_bool(a b:Bool):kSame (.bool a) (.bool b)=some (a == b):=rfl
theorem kFind_nil(k:Value):kFind k []=some none:=rfl
theorem kFind_cons(k:Value) (x:Value) (v:AV) (es:List (Value×AV)):kFind k ((x,v)::es)=match kSame k x with
  | some true=>some (some v)
  | some false=>kFind k es
  | none=>none:=rfl
attribute [simp] acells_mp aone_mp noTup_mp lookV_t lookV_f kIs_int kIs_bool kIs_str kSame_int kSame_str kSame_bool kFind_nil kFind_cons
theorem noTup_fn(f:Fn) (a b:List AV):(AV.fn f a b).noTup=true:=rfl
attribute [simp] cells_lit cells_nil cells_sl cells_agg cells_ip cells_fn cells_ifc isAgg_lit isAgg_nil isAgg_sl isAgg_agg isAgg_ip isAgg_fn isAgg_ifc one_lit one_nil one_sl one_agg one_ip one_fn one_ifc
 acells_d acells_own acells_agg acells_ptr acells_bsl acells_fn aone_d aone_own aone_agg aone_ptr aone_bsl aone_fn noTup_lit noTup_nil noTup_sl noTup_dagg noTup_ip noTup_dfn noTup_ifc noTup_own noTup_agg noTup_ptr noTup_bsl noTup_fn
section
variable (P:Program) (cx:Cx) (Q:AE->St->Prop) (σ:St)
theorem vc_cond(c:Opd) (a b:AC):vc P cx (.cond c a b) Q σ=(match evO σ.s c with
  | some (g,.d (.lit (.bool t)))=>g=true∧(if t=true then vc P cx a Q σ else True)∧(if t=false then vc P cx b Q σ else True)
  | _=>False):=by
 rw [vc]
 split <;> simp_all
variable {P cx Q σ}
end
theorem exV:∃ f:(Program->Cx->AC->(AE->St->Prop)->St->Prop),f=vc:=⟨_,rfl⟩
noncomputable def vcX:Program->Cx->AC->(AE->St->Prop)->St->Prop:=Classical.choose exV
theorem vcX_eq:vcX=vc:=Classical.choose_spec exV
theorem vcFun_eq(P:Program) (C:FuncId->List D->Out->Prop) (fn:AF) (args:List D) (out:Out):vcFun P C fn args out=vcX P {C:=C} fn.body (endH P C fn (retO out)) ⟨argA (args.map .d) 0,[],[]⟩:=by rw [vcX_eq];rfl
section
variable {P:Program}{cx:Cx}{Q:AE->St->Prop}{K:St->Prop}{s:List (Nat×Bool×AV)}{h:List (Nat×HO)}{d:List DE}
theorem go_skip:vcX P cx .skip Q ⟨s,h,d⟩=Q .normal ⟨s,h,d⟩:=by rw [vcX_eq];rfl
theorem go_seq(a b:AC):vcX P cx (.seq a b) Q ⟨s,h,d⟩=vcX P cx a (seqQ (vcX P cx b Q) Q) ⟨s,h,d⟩:=by rw [vcX_eq];rfl
theorem go_cond(c:Opd) (a b:AC):vcX P cx (.cond c a b) Q ⟨s,h,d⟩=(match evO s c with
  | some (g,.d (.lit (.bool t)))=>g=true∧(if t=true then vcX P cx a Q ⟨s,h,d⟩ else True)∧(if t=false then vcX P cx b Q ⟨s,h,d⟩ else True)
  | _=>False):=by rw [vcX_eq];exact vc_cond ..
theorem go_block(id:Nat) (b:AC):vcX P cx (.block id b) Q ⟨s,h,d⟩=vcX P cx b (blockQ id Q) ⟨s,h,d⟩:=by rw [vcX_eq];rfl
theorem go_exit(id:Nat):vcX P cx (.exit id) Q ⟨s,h,d⟩=Q (.exit id) ⟨s,h,d⟩:=by rw [vcX_eq];rfl
theorem go_ret:vcX P cx .ret Q ⟨s,h,d⟩=Q .ret ⟨s,h,d⟩:=by rw [vcX_eq];rfl
theorem seqQ_n:seqQ K Q .normal ⟨s,h,d⟩=K ⟨s,h,d⟩:=rfl
theorem seqQ_e(i:Nat):seqQ K Q (.exit i) ⟨s,h,d⟩=Q (.exit i) ⟨s,h,d⟩:=rfl
theorem seqQ_r:seqQ K Q .ret ⟨s,h,d⟩=Q .ret ⟨s,h,d⟩:=rfl
theorem seqQ_p(x:D):seqQ K Q (.pan x) ⟨s,h,d⟩=Q (.pan x) ⟨s,h,d⟩:=rfl
theorem blockQ_n(id:Nat):blockQ id Q .normal ⟨s,h,d⟩=Q .normal ⟨s,h,d⟩:=rfl
theorem blockQ_e(id i:Nat):blockQ id Q (.exit i) ⟨s,h,d⟩=if i=id then Q .normal ⟨s,h,d⟩ else Q (.exit i) ⟨s,h,d⟩:=rfl
theorem blockQ_r(id:Nat):blockQ id Q .ret ⟨s,h,d⟩=Q .ret ⟨s,h,d⟩:=rfl
theorem blockQ_p(id:Nat) (x:D):blockQ id Q (.pan x) ⟨s,h,d⟩=Q (.pan x) ⟨s,h,d⟩:=rfl
variable {C:FuncId->List D->Out->Prop}
theorem endH_n(fn:AF) (K:HOut->List (Nat×HO)->Prop):endH P C fn K .normal ⟨s,h,d⟩=leaveQ P C fn K none d s h:=rfl
theorem endH_r(fn:AF) (K:HOut->List (Nat×HO)->Prop):endH P C fn K .ret ⟨s,h,d⟩=leaveQ P C fn K none d s h:=rfl
theorem endH_p(fn:AF) (K:HOut->List (Nat×HO)->Prop) (x:D):endH P C fn K (.pan x) ⟨s,h,d⟩=leaveQ P C fn K (some x) d s h:=rfl
theorem leaveQ_ret(fn:AF) (K:HOut->List (Nat×HO)->Prop):leaveQ P C fn K none [] s h=(match retV ⟨s,h,[]⟩ fn.res with
  | some (c,v)=>c∧K (.ret v) h
  | none=>False):=rfl
theorem leaveQ_pan(fn:AF) (K:HOut->List (Nat×HO)->Prop) (x:D):leaveQ P C fn K (some x) [] s h=K (.pan x) h:=rfl
theorem leaveQ_mark(fn:AF) (K:HOut->List (Nat×HO)->Prop) (u:Option D) (n:Nat):leaveQ P C fn K u (.mark n::d) s h=(look h n=some (.obj 0)∧leaveQ P C fn K u d s (setH h n .dead)):=by cases u <;> rfl
def leaveK (P:Program) (C:FuncId->List D->Out->Prop) (fn:AF) (K:HOut->List (Nat×HO)->Prop) (ds:List DE) (s:List (Nat×Bool×AV)) (u:Option D) (h:List (Nat×HO)):Prop:=leaveQ P C fn K u ds s h
theorem leaveK_eq(fn:AF) (K:HOut->List (Nat×HO)->Prop) (u:Option D):leaveK P C fn K d s u h=leaveQ P C fn K u d s h:=rfl
theorem leave_fn{fn:AF}{K:HOut->List (Nat×HO)->Prop}{u:Option D}{f:FuncId}{as caps:List AV}(T:Cx->List AV->Option D->List (Nat×HO)->(Option D->List (Nat×HO)->Prop)->Prop) (hT:DCall P f T)
  (hk:T {C:=C,B:=newName h} (as++caps) u h (leaveK P C fn K d s)):leaveQ P C fn K u (.fn f as caps::d) s h:=by
 cases u <;> exact⟨T,hT,hk⟩
theorem endD_n(res:List RV) (K:Option D->List (Nat×HO)->Prop) (u:Option D):endD res K u .normal ⟨s,h,d⟩=(d=[]∧(match retV ⟨s,h,[]⟩ res with | some (c,_)=>c | none=>False)∧K u h):=rfl
theorem endD_r(res:List RV) (K:Option D->List (Nat×HO)->Prop) (u:Option D):endD res K u .ret ⟨s,h,d⟩=(d=[]∧(match retV ⟨s,h,[]⟩ res with | some (c,_)=>c | none=>False)∧K u h):=rfl
theorem endD_p(res:List RV) (K:Option D->List (Nat×HO)->Prop) (u:Option D) (x:D):endD res K u (.pan x) ⟨s,h,d⟩=(d=[]∧u=none∧K (some x) h):=rfl
theorem endR_n(res:List RV) (K:Option D->List (Nat×HO)->Prop) (u:Option D):endR res K u .normal ⟨s,h,d⟩=(d=[]∧(match retV ⟨s,h,[]⟩ res with | some (c,_)=>c | none=>False)∧K none h):=rfl
theorem endR_r(res:List RV) (K:Option D->List (Nat×HO)->Prop) (u:Option D):endR res K u .ret ⟨s,h,d⟩=(d=[]∧(match retV ⟨s,h,[]⟩ res with | some (c,_)=>c | none=>False)∧K none h):=rfl
theorem endR_p(res:List RV) (K:Option D->List (Nat×HO)->Prop) (u:Option D) (x:D):endR res K u (.pan x) ⟨s,h,d⟩=(d=[]∧u=none∧K (some x) h):=rfl
theorem TD_eq{fn:AF}{all:List AV}{u:Option D}{K:Option D->List (Nat×HO)->Prop}:TD P fn cx all u h K=(all.length<=fn.nt∧vcX P cx fn.body (endD fn.res K u) ⟨argA all 0,h,[]⟩):=by rw [vcX_eq];rfl
theorem TR_eq{g:AR}{all:List AV}{u:Option D}{K:Option D->List (Nat×HO)->Prop}:TR P g cx all u h K=(all.length<=g.nt∧vcX P cx g.rest (endR g.res K u) ⟨(g.tb,true,.d (uD u))::(g.ta,true,.d (uD u))::argA all 0,h,[]⟩):=by rw [vcX_eq];rfl
theorem uD_n:uD none=.lit .nilIface:=rfl
theorem uD_s(x:D):uD (some x)=x:=rfl
end
attribute [simp] go_skip go_seq go_cond go_block go_exit go_ret seqQ_n seqQ_e seqQ_r seqQ_p blockQ_n blockQ_e blockQ_r blockQ_p endH_n endH_r endH_p leaveQ_ret leaveQ_pan leaveQ_mark leaveK_eq endD_n endD_r endD_p endR_n endR_r endR_p TD_eq TR_eq uD_n uD_s
section
variable (hl:List (Nat×HO))
theorem argD_fn(f:Fn) (a c:List AV):argD hl (.fn f a c)=match argCs hl a,argCs hl c with
  | some (x,p),some (y,q)=>some (.fn f x y,p||q)
  | _,_=>none:=rfl
theorem argD_d(x:D):argD hl (.d x)=some (x,false):=rfl
theorem argD_own(r sz:Nat) (es:List D):argD hl (.own r sz es)=some (.sl sz es,false):=rfl
theorem argD_agg(cs:List AV):argD hl (.agg cs)=(allD1 cs).map fun ds=>(.agg ds,false):=rfl
theorem argD_ptr(n o:Nat):argD hl (.ptr n o)=argC hl (.ptr n o):=rfl
theorem argD_bsl(a b c d e:Nat):argD hl (.bsl a b c d e)=argC hl (.bsl a b c d e):=rfl
theorem argD_e0(a:Nat):argD hl (.e0 a)=some (.sl a [],false):=rfl
theorem argH1_e0(a:Nat):argH1 hl (.e0 a)=[]:=rfl
theorem argH1_fn(f:Fn) (a c:List AV):argH1 hl (.fn f a c)=argHC hl a++argHC hl c:=rfl
theorem argH1_d(x:D):argH1 hl (.d x)=[]:=rfl
theorem argH1_own(r sz:Nat) (es:List D):argH1 hl (.own r sz es)=[]:=rfl
theorem argH1_agg(cs:List AV):argH1 hl (.agg cs)=[]:=rfl
theorem argH1_ptr(n o:Nat):argH1 hl (.ptr n o)=argHC hl [.ptr n o]:=rfl
theorem argH1_bsl(a b c d e:Nat):argH1 hl (.bsl a b c d e)=argHC hl [.bsl a b c d e]:=rfl
end
attribute [simp] argD_e0 argH1_e0 argD_fn argD_d argD_own argD_agg argD_ptr argD_bsl argH1_fn argH1_d argH1_own argH1_agg argH1_ptr argH1_bsl
attribute [simp] vcFun_eq vcOps vcOp gEff evL evO stepV stepX AK.opds AOp.opds optL argA retO retV retL ret1 putS updH newName gcond allT ents arithV calleeA argsD argH argCs argC argHC allD1 AV.toD1 AV.toD0 toDs0 AV.elems AV.rowD subA subD mkAgg setAt List.getD D.fits bound toDs leD_self leD_nil
section
variable (ρ:Nat->Nat) (N:Nat->Option Nat) (ok:Nat->Bool) (k:Nat)
theorem leA_d(x y:D):leA ρ N ok k (.d x) (.d y)=LeD x y:=by cases k <;> simp [leA]
theorem leA_own(r sz:Nat) (es:List D) (r' sz':Nat) (es':List D):leA ρ N ok k (.own r sz es) (.own r' sz' es')=(r=ρ r'∧sz=sz'∧es=es'∧ok r'=true∧N r'=none):=by cases k <;> simp [leA]
theorem leA_nil(sz r sz':Nat) (es:List D):leA ρ N ok k (.d (.nil sz)) (.own r sz' es)=(sz=sz'∧es=[]∧N r=some sz):=by cases k <;> simp [leA]
theorem leA_ownd(r sz:Nat) (es:List D) (y:D):leA ρ N ok k (.own r sz es) (.d y)=LeD (.sl sz es) y:=by cases k <;> simp [leA]
theorem leA_ptr(n o n' o':Nat):leA ρ N ok k (.ptr n o) (.ptr n' o')=(n=ρ n'∧o=o'∧ok n'=true):=by cases k <;> simp [leA]
theorem leA_bsl(n o z l c n' o' z' l' c':Nat):leA ρ N ok k (.bsl n o z l c) (.bsl n' o' z' l' c')=(n=ρ n'∧o=o'∧z=z'∧l=l'∧c=c'∧ok n'=true):=by cases k <;> simp [leA]
@[simp] theorem leA_spare (r sz n r' sz' n':Nat):leA ρ N ok k (.spare r sz n) (.spare r' sz' n')=(r=ρ r'∧sz=sz'∧n=n'∧ok r'=true∧N r'=none):=by cases k <;> simp [leA]
@[simp] theorem leA_mp (n n':Nat):leA ρ N ok k (.mp n) (.mp n')=(n=ρ n'∧ok n'=true):=by cases k <;> simp [leA]
theorem leA_agg(cs cs':List AV):leA ρ N ok (k+1) (.agg cs) (.agg cs')=(leA.leL ρ N ok k cs cs'∧∀ c∈cs',c.one=true):=by simp only [leA]
theorem leA_aggd(cs:List AV) (ds:List D):leA ρ N ok (k+1) (.agg cs) (.d (.agg ds))=(leA.leL ρ N ok k cs (ds.map .d)∧∀ c∈ds,c.one=true):=by simp only [leA]
theorem leA_dagg(ds:List D) (cs:List AV):leA ρ N ok (k+1) (.d (.agg ds)) (.agg cs)=(leA.leL ρ N ok k (ds.map .d) cs∧∀ c∈cs,c.one=true):=by simp only [leA]
theorem leA_tup(cs cs':List AV):leA ρ N ok (k+1) (.tup cs) (.tup cs')=leA.leL ρ N ok k cs cs':=by simp only [leA]
theorem leA_tupd(cs:List AV) (ds:List D):leA ρ N ok (k+1) (.tup cs) (.d (.tup ds))=leA.leL ρ N ok k cs (ds.map .d):=by simp only [leA]
theorem leA_fn(f f':Fn) (a b a' b':List AV):leA ρ N ok (k+1) (.fn f a b) (.fn f' a' b')=(f=f'∧leA.leL ρ N ok k a a'∧leA.leL ρ N ok k b b'):=by simp only [leA]
theorem leA_fnd(f f':Fn) (a b:List AV) (a' b':List D):leA ρ N ok (k+1) (.fn f a b) (.d (.fn f' a' b'))=(f=f'∧leA.leL ρ N ok k a (a'.map .d)∧leA.leL ρ N ok k b (b'.map .d)):=by simp only [leA]
theorem leL_nil:leA.leL ρ N ok k [] []=True:=by simp only [leA.leL]
theorem leL_cons(c c':AV) (r r':List AV):leA.leL ρ N ok k (c::r) (c'::r')=(leA ρ N ok k c c'∧leA.leL ρ N ok k r r'):=by simp only [leA.leL]
end
theorem allD_nil:allD []=some []:=rfl
theorem allD_d(x:D) (r:List AV):allD (.d x::r)=(allD r).map (x::·):=rfl
theorem allD_own(a b:Nat) (e:List D) (r:List AV):allD (.own a b e::r)=none:=rfl
theorem allD_agg(cs:List AV) (r:List AV):allD (.agg cs::r)=none:=rfl
theorem allD_tup(cs:List AV) (r:List AV):allD (.tup cs::r)=none:=rfl
@[simp] theorem allD_spare (a b c:Nat) (r:List AV):allD (.spare a b c::r)=none:=rfl
@[simp] theorem allD_mp (a:Nat) (r:List AV):allD (.mp a::r)=none:=rfl
theorem allD_ptr(a b:Nat) (r:List AV):allD (.ptr a b::r)=none:=rfl
theorem allD_bsl(a b c d e:Nat) (r:List AV):allD (.bsl a b c d e::r)=none:=rfl
theorem allD_fn(f:Fn) (a b:List AV) (r:List AV):allD (.fn f a b::r)=none:=rfl
attribute [simp] allD_nil allD_d allD_own allD_agg allD_tup allD_ptr allD_bsl allD_fn
theorem buildA_nil(z:List AV):buildA z [] []=z:=rfl
theorem buildA_cons(z:List AV) (off sz:Nat) (o:Opd) (ps:List (Nat×Nat×Opd)) (v:AV) (vs:List AV):buildA z ((off,sz,o)::ps) (v::vs)=buildA (setAt z off v.cells) ps vs:=rfl
theorem buildC_nil(n:Nat):buildC [] [] n=True:=rfl
theorem buildC_cons(n:Nat) (off sz:Nat) (o:Opd) (ps:List (Nat×Nat×Opd)) (v:AV) (vs:List AV):buildC ((off,sz,o)::ps) (v::vs) n=(v.cells.length=sz∧v.noTup=true∧off+sz<=n∧buildC ps vs n):=rfl
theorem eqC_nil:eqC [] [] []=True:=rfl
theorem eqC_int(k k1 k2:IntKind) (a b:Int) (ks:List SK) (xs ys:List D):eqC (.int k::ks) (.lit (.int k1 a)::xs) (.lit (.int k2 b)::ys)=(k1=k∧k2=k∧eqC ks xs ys):=rfl
theorem eqC_bool(a b:Bool) (ks:List SK) (xs ys:List D):eqC (.bool::ks) (.lit (.bool a)::xs) (.lit (.bool b)::ys)=eqC ks xs ys:=rfl
theorem eqC_str(a b:ByteArray) (ks:List SK) (xs ys:List D):eqC (.str::ks) (.lit (.string a)::xs) (.lit (.string b)::ys)=eqC ks xs ys:=rfl
theorem eqB_nil:eqB [] []=true:=rfl
theorem eqB_int(k k':IntKind) (a b:Int) (xs ys:List D):eqB (.lit (.int k a)::xs) (.lit (.int k' b)::ys)=(a == b&&eqB xs ys):=rfl
theorem eqB_bool(a b:Bool) (xs ys:List D):eqB (.lit (.bool a)::xs) (.lit (.bool b)::ys)=(a == b&&eqB xs ys):=rfl
theorem eqB_str(a b:ByteArray) (xs ys:List D):eqB (.lit (.string a)::xs) (.lit (.string b)::ys)=(decide (a=b)&&eqB xs ys):=rfl
attribute [simp] leA_d leA_own leA_nil leA_ownd leA_ptr leA_bsl leA_agg leA_aggd leA_dagg leA_tup leA_tupd leA_fn leA_fnd leL_nil leL_cons buildA_nil buildA_cons buildC_nil buildC_cons eqC_nil eqC_int eqC_bool eqC_str eqB_nil eqB_int eqB_bool eqB_str
@[simp] theorem iceD_t (es:List D):iceD true es=.agg es:=rfl
@[simp] theorem iceD_f (e:D) (es:List D):iceD false (e::es)=e:=rfl
@[simp] theorem acells_e0 (a:Nat):(AV.e0 a).cells=[.e0 a]:=rfl
@[simp] theorem aone_e0 (a:Nat):(AV.e0 a).one=true:=rfl
@[simp] theorem noTup_e0 (a:Nat):(AV.e0 a).noTup=true:=rfl
@[simp] theorem allD_e0 (a:Nat) (r:List AV):allD (.e0 a::r)=none:=rfl
@[simp] theorem leA_e0 (ρ:Nat->Nat) (N:Nat->Option Nat) (ok:Nat->Bool) (k:Nat) (z z':Nat):leA ρ N ok k (.e0 z) (.e0 z')=(z=z'):=by cases k <;> simp [leA]
theorem allD1_map:∀ ds:List D,allD1 (ds.map .d)=some ds
 | []=>rfl
 | d::ds=>by simp only [List.map_cons,allD1,AV.toD1,allD1_map ds]
@[simp] theorem allD1_wr (es:List D):allD1 (wr es)=some (D.flat es):=allD1_map _
theorem allD_map:∀ ds:List D,allD (ds.map .d)=some ds
 | []=>rfl
 | d::ds=>by simp only [List.map_cons,allD,allD_map ds,Option.map]
@[simp] theorem allD_wr (es:List D):allD (wr es)=some (D.flat es):=allD_map _
@[simp] theorem wr_len (es:List D):(wr es).length=(D.flat es).length:=by simp [wr]
theorem leL_map(ρ:Nat->Nat) (N:Nat->Option Nat) (ok:Nat->Bool) (k:Nat):∀ ds:List D,leA.leL ρ N ok k (ds.map .d) (ds.map .d)
 | []=>by simp only [leA.leL,List.map_nil]
 | d::ds=>by
  simp only [leA.leL,List.map_cons]
  exact⟨by cases k <;> simp only [leA] <;> exact LeD.refl d,leL_map ρ N ok k ds⟩
@[simp] theorem leL_wr (ρ:Nat->Nat) (N:Nat->Option Nat) (ok:Nat->Bool) (k:Nat) (es:List D):leA.leL ρ N ok k (wr es) (wr es)=True:=eq_true (leL_map ρ N ok k _)
theorem wr_one{es:List D}(h:∀ c∈D.flat es,c.one=true):∀ c∈wr es,c.one=true:=fun c hc=>by
 simp only [wr,List.mem_map] at hc
 obtain⟨d,hd,rfl⟩:=hc
 exact h d hd
theorem getS_nil(t:Nat):getS [] t=none:=by unfold getS;exact rfl
theorem getS_hit(t:Nat) (e:Bool×AV) (r:List (Nat×Bool×AV)):getS ((t,e)::r) t=some e:=by
 have:∀ t',t'=t->getS ((t',e)::r) t=some e:=fun t' h=>by rw [getS];exact if_pos h.symm
 exact this t rfl
theorem getS_miss{t t':Nat}(h:(t == t')=false) (e:Bool×AV) (r:List (Nat×Bool×AV)):getS ((t',e)::r) t=getS r t:=by
 rw [getS];exact if_neg (by simpa using h)
theorem look_nil(n:Nat):look [] n=none:=by unfold look;exact rfl
theorem look_hit(n:Nat) (o:HO) (r:List (Nat×HO)):look ((n,o)::r) n=some o:=by
 have:∀ n',n'=n->look ((n',o)::r) n=some o:=fun n' h=>by rw [look];exact if_pos h.symm
 exact this n rfl
theorem look_miss{n n':Nat}(h:(n == n')=false) (o:HO) (r:List (Nat×HO)):look ((n',o)::r) n=look r n:=by
 rw [look];exact if_neg (by simpa using h)
theorem setH_nil(n:Nat) (o:HO):setH [] n o=[(n,o)]:=by unfold setH;exact rfl
theorem setH_hit(n:Nat) (o x:HO) (r:List (Nat×HO)):setH ((n,x)::r) n o=(n,o)::r:=by
 have:∀ n',n'=n->setH ((n',x)::r) n o=(n',o)::r:=fun n' h=>by subst h;rw [setH];exact if_pos rfl
 exact this n rfl
theorem setH_miss{n n':Nat}(h:(n == n')=false) (o x:HO) (r:List (Nat×HO)):setH ((n',x)::r) n o=(n',x)::setH r n o:=by
 rw [setH];exact if_neg (by simpa using h)
attribute [simp] getS_nil getS_hit getS_miss look_nil look_hit look_miss setH_nil setH_hit setH_miss
theorem noC{P:Program}:∀ (f:FuncId) (ds:List D) (out:Out),(fun(_:FuncId) (_:List D) (_:Out)=>False) f ds out->PCall P f ds out:=fun _ _ _ h=>h.elim
theorem findIdx_none{α:Type}{p:α->Bool}{l:List α}(h:∀ j,(h:j<l.length)->p l[j]=false):l.findIdx? p=none:=by
 rw [List.findIdx?_eq_none_iff]
 intro x hx
 obtain⟨j,hj,rfl⟩:=List.getElem_of_mem hx
 simp [h j hj]
theorem findIdx_some{α:Type}{p:α->Bool}{l:List α}{i:Nat}(hi:i<l.length) (hp:p l[i]=true) (h:∀ j,(h:j<i)->p (l[j]'(by omega))=false):l.findIdx? p=some i:=by
 rw [List.findIdx?_eq_some_iff_getElem]
 exact⟨hi,hp,fun j hj=>by simp [h j hj]⟩
theorem wrap64{n:Int}(h:-9223372036854775808<=n∧n<=9223372036854775807):IntKind.i64.wrap n=n:=by
 simp [IntKind.wrap,IntKind.bits,IntKind.signed];omega
def dI (n:Int):D:=.lit (.int .i64 n)
def dB (b:Bool):D:=.lit (.bool b)
def dU (b:UInt8):D:=.lit (.int .u8 b.toNat)
attribute [simp] dI dB
def vcOpsO (C:FuncId->List D->Out->Prop) (Qp:D->St->Prop) (K:List Rec->St->Prop):List Out->List AOper->St->List Rec->Prop
 | _,[],σ,recs=>K recs σ
 | os,ao::r,σ,recs=>match ao.k with
  | .call f args=>match os with
   | []=>False
   | o::os'=>match gEff σ.s ao.guard with
    | none=>False
    | some (g,rs)=>match evL σ.s (f::args) with
     | some (gs,fv::vs)=>match calleeA fv vs with
      | some (fid,all)=>match argsD σ.h all with
       | some (ds,snap)=>(g=true->allT gs∧C fid ds o)∧match o with
        | .ret d=>(snap=true->Free d)∧vcOpsO C Qp K os' r ⟨putS σ.s ao.dst (g,.d d),σ.h,σ.d⟩ (recs++[⟨ao.dst,rs++ents σ.s (f::args),g,.d d,argH σ.h all,[]⟩])
        | .pan d=>g=true∧(snap=true->Free d)∧Qp d σ
        | .app _ _=>False
        | .retM es=>False
       | none=>False
      | none=>False
     | _=>False
  | _=>vcOp C σ ao (fun d=>Qp d σ) (fun rec σ'=>vcOpsO C Qp K os r σ' (recs++[rec]))
theorem vcOpsO_imp{C:FuncId->List D->Out->Prop}{Qp:D->St->Prop}{K:List Rec->St->Prop}:∀ {ops:List AOper}{os:List Out}{σ:St}{recs:List Rec},vcOpsO C Qp K os ops σ recs->vcOps C Qp K ops σ recs
 | [],os,σ,recs,h=>by cases os <;> exact h
 | ao::r,os,σ,recs,h=>by
  unfold vcOpsO at h
  unfold vcOps
  split at h
  ·rename_i f args hk
   split at h
   ·exact h.elim
   ·rename_i o os'
    unfold vcOp
    split at h
    ·exact h.elim
    ·rename_i g rs hg
     simp only [hg,hk]
     split at h
     ·rename_i gs fv vs hev
      simp only [hev]
      split at h
      ·rename_i fid all hcal
       simp only [hcal]
       split at h
       ·rename_i ds snap hargs
        simp only [hargs]
        refine⟨o,h.1,?_⟩
        have h2:=h.2
        cases o with
        | ret d=>exact⟨h2.1,vcOpsO_imp h2.2⟩
        | pan d=>exact h2
        | app sz es=>exact h2.elim
        | retM es=>exact h2.elim
       ·exact h.elim
      ·exact h.elim
     ·exact h.elim
  ·exact vcOp_mono (fun rec σ' h=>vcOpsO_imp h) h
section
variable {P:Program}{cx:Cx}{Q:AE->St->Prop}{σ:St}
def regC (P:Program) (cx:Cx) (bf:Option (List (List Nat))) (ops:List AOper) (Q:AE->St->Prop) (σ:St):Prop:=vcX P cx (.region bf ops) Q σ
theorem vc_region'{ops:List AOper}:vc P cx (.region none ops) Q σ=if waits ops=true then regC P cx none ops Q σ else vcOpsP false cx.C (fun d σ=>Q (.pan d) σ) (fun _ σ=>Q .normal σ) [] (marks ops) σ []:=by
 by_cases h:waits ops=true <;> simp [h,regC,vcX_eq,vc]
theorem vc_regionD'{bf:List (List Nat)}{ops:List AOper}:vc P cx (.region (some bf) ops) Q σ=if waits ops=true then regC P cx (some bf) ops Q σ else vcOpsP true cx.C (fun _ _=>False) (fun R σ'=>conflictR R bf=true∧Q .normal σ') [] (marks ops) σ []:=by
 by_cases h:waits ops=true <;> simp [h,regC,vcX_eq,vc]
theorem regC_W{ops:List AOper}(h:vcOpsW cx.C (fun d σ=>Q (.pan d) σ) (fun _ σ=>Q .normal σ) ops σ []) (hw:waits ops=true:=by rfl):regC P cx none ops Q σ:=by
 unfold regC;rw [vcX_eq];unfold vc;rw [if_pos hw];exact h
theorem regC_WD{bf:List (List Nat)}{ops:List AOper}(h:vcOpsW cx.C (fun _ _=>False) (fun R σ'=>conflictOk R bf=true∧Q .normal σ') ops σ []) (hw:waits ops=true:=by rfl):regC P cx (some bf) ops Q σ:=by
 unfold regC;rw [vcX_eq];unfold vc;rw [if_pos hw];exact h
theorem vc_calls(os:List Out){ops:List AOper}(h:vcOpsO cx.C (fun d σ=>Q (.pan d) σ) (fun _ σ=>Q .normal σ) os ops σ []) (hw:waits ops=true:=by rfl):regC P cx none ops Q σ:=regC_W (vcOps_W (vcOpsO_imp h)) hw
theorem vc_callsD(os:List Out){bf:List (List Nat)}{ops:List AOper}(h:vcOpsO cx.C (fun _ _=>False) (fun R σ'=>conflictOk R bf=true∧Q .normal σ') os ops σ []) (hw:waits ops=true:=by rfl):regC P cx (some bf) ops Q σ:=regC_WD (vcOps_W (vcOpsO_imp h)) hw
end
section
variable {P:Program}{cx:Cx}{Q:AE->St->Prop}{s:List (Nat×Bool×AV)}{h:List (Nat×HO)}{d:List DE}
theorem go_region{ops:List AOper}:vcX P cx (.region none ops) Q ⟨s,h,d⟩=if waits ops=true then regC P cx none ops Q ⟨s,h,d⟩ else vcOpsX false cx.C (fun d σ=>Q (.pan d) σ) (fun _ σ=>Q .normal σ) [] (marks ops) ⟨s,h,d⟩ []:=by rw [vcOpsX_eq,vcX_eq];exact vc_region'
theorem go_regionD{bf:List (List Nat)}{ops:List AOper}:vcX P cx (.region (some bf) ops) Q ⟨s,h,d⟩=if waits ops=true then regC P cx (some bf) ops Q ⟨s,h,d⟩ else vcOpsX true cx.C (fun _ _=>False) (fun R σ'=>conflictR R bf=true∧Q .normal σ') [] (marks ops) ⟨s,h,d⟩ []:=by rw [vcOpsX_eq,vcX_eq];exact vc_regionD'
end
attribute [simp] waits vcOpsO go_region go_regionD
section
variable {P:Program}{cx:Cx}{Q:AE->St->Prop}{σ:St}
theorem vc_path(os:List Out){ops:List AOper}(h:vcOpsX false cx.C (fun d σ=>Q (.pan d) σ) (fun _ σ=>Q .normal σ) os (marks ops) σ []) (hw:waits ops=true:=by rfl):regC P cx none ops Q σ:=regC_W (vcOpsP_reg (by rw [vcOpsX_eq] at h;exact h)) hw
theorem vc_pathD(os:List Out){bf:List (List Nat)}{ops:List AOper}(h:vcOpsX true cx.C (fun _ _=>False) (fun R σ'=>conflictR R bf=true∧Q .normal σ') os (marks ops) σ []) (hw:waits ops=true:=by rfl):regC P cx (some bf) ops Q σ:=regC_WD (vcOpsP_regD (by rw [vcOpsX_eq] at h;exact h)) hw
def keepS (s:List (Nat×Bool×AV)):List Nat->List (Nat×Bool×AV)
 | []=>[]
 | k::ks=>match getS s k with
  | some e=>(k,e)::keepS s ks
  | none=>keepS s ks
def overH (h:List (Nat×HO)):List (Nat×HO)->List (Nat×HO)
 | []=>h
 | (n,o)::r=>overH (setH h n o) r
theorem vc_loopK{b:AC}(ks:List Nat) (X:Type) (sl:X->List (Nat×Bool×AV)) (hp:X->List (Nat×HO)) (I:X->Prop) (μ:X->Nat) (x0:X) (h0:I x0) (hs:Sub cx.B σ ⟨sl x0++keepS σ.s ks,overH σ.h (hp x0),σ.d⟩)
  (h:∀ x,I x->vcX P cx b (seqQ (fun σ'=>∃ x',I x'∧μ x'<μ x∧Sub cx.B σ' ⟨sl x'++keepS σ.s ks,overH σ.h (hp x'),σ.d⟩) Q) ⟨sl x++keepS σ.s ks,overH σ.h (hp x),σ.d⟩):vcX P cx (.loop b) Q σ:=by
 rw [vcX_eq] at h ⊢
 exact⟨X,fun x=>⟨sl x++keepS σ.s ks,overH σ.h (hp x),σ.d⟩,I,μ,⟨x0,h0,hs⟩,h⟩
end
section
variable {P:Program}{cx:Cx}{Q:AE->St->Prop}{σ σ':St}{C:FuncId->List D->Out->Prop}
theorem vc_cg{c:AC}(h:σ=σ'):vcX P cx c Q σ=vcX P cx c Q σ':=by rw [h]
theorem regC_cg{bf:Option (List (List Nat))}{ops:List AOper}(h:σ=σ'):regC P cx bf ops Q σ=regC P cx bf ops Q σ':=by rw [h]
theorem seqQ_cg{K:St->Prop}{e e':AE}(h:e=e') (h2:σ=σ'):seqQ K Q e σ=seqQ K Q e' σ':=by rw [h,h2]
theorem blockQ_cg{id:Nat}{e e':AE}(h:e=e') (h2:σ=σ'):blockQ id Q e σ=blockQ id Q e' σ':=by rw [h,h2]
theorem endH_cg{fn:AF}{K:HOut->List (Nat×HO)->Prop}{e e':AE}(h:e=e') (h2:σ=σ'):endH P C fn K e σ=endH P C fn K e' σ':=by rw [h,h2]
theorem leaveQ_cg{fn:AF}{K:HOut->List (Nat×HO)->Prop}{u u':Option D}{d d':List DE}{s s':List (Nat×Bool×AV)}{hp hp':List (Nat×HO)}(h:u=u') (h2:d=d') (h3:s=s') (h4:hp=hp'):leaveQ P C fn K u d s hp=leaveQ P C fn K u' d' s' hp':=by rw [h,h2,h3,h4]
theorem leaveK_cg{fn:AF}{K:HOut->List (Nat×HO)->Prop}{u u':Option D}{d:List DE}{s:List (Nat×Bool×AV)}{hp hp':List (Nat×HO)}(h:u=u') (h4:hp=hp'):leaveK P C fn K d s u hp=leaveK P C fn K d s u' hp':=by rw [h,h4]
theorem endD_cg{res:List RV}{K:Option D->List (Nat×HO)->Prop}{u u':Option D}{e e':AE}(h0:u=u') (h:e=e') (h2:σ=σ'):endD res K u e σ=endD res K u' e' σ':=by rw [h0,h,h2]
theorem endR_cg{res:List RV}{K:Option D->List (Nat×HO)->Prop}{u u':Option D}{e e':AE}(h0:u=u') (h:e=e') (h2:σ=σ'):endR res K u e σ=endR res K u' e' σ':=by rw [h0,h,h2]
theorem vcOp_cg{ao:AOper}{Qp:D->Prop}{K:Rec->St->Prop}(h:σ=σ'):vcOp C σ ao Qp K=vcOp C σ' ao Qp K:=by rw [h]
theorem vcOps_cg{ops:List AOper}{Qp:D->St->Prop}{K:List Rec->St->Prop}{R R':List Rec}(h:σ=σ') (h2:R=R'):vcOps C Qp K ops σ R=vcOps C Qp K ops σ' R':=by rw [h,h2]
theorem vcOpsO_cg{ops:List AOper}{Qp:D->St->Prop}{K:List Rec->St->Prop}{os os':List Out}{R R':List Rec}(h0:os=os') (h:σ=σ') (h2:R=R'):vcOpsO C Qp K os ops σ R=vcOpsO C Qp K os' ops σ' R':=by rw [h0,h,h2]
theorem vcOpsX_cg{dr:Bool}{ops ops':List (Bool×AOper)}{Qp:D->St->Prop}{K:List Li->St->Prop}{os os':List Out}{R R':List Li}(h0:os=os') (h1:ops=ops') (h:σ=σ') (h2:R=R'):vcOpsX dr C Qp K os ops σ R=vcOpsX dr C Qp K os' ops' σ' R':=by rw [h0,h1,h,h2]
end
attribute [congr] loopP_congr vc_cg regC_cg seqQ_cg blockQ_cg endH_cg leaveQ_cg leaveK_cg endD_cg endR_cg vcOp_cg vcOps_cg vcOpsO_cg vcOpsX_cg
theorem marks_nil:marks []=[]:=by rw [marks]
theorem marks_cons(o:AOper) (r:List AOper):marks (o::r)=(splitG o.dst r,o)::marks r:=by rw [marks]
attribute [simp] splitG marks_nil marks_cons vcOpsX_nil vcOpsX_cons addL keepS overH doms subS subH subDs rho assocN newN okN
theorem exS:∃ f:(Program->Cx->(AE->St->Prop)->List Out->List (Bool×AOper)->St->Prop),f=vcSP:=⟨_,rfl⟩
noncomputable def vcSX:Program->Cx->(AE->St->Prop)->List Out->List (Bool×AOper)->St->Prop:=Classical.choose exS
theorem vcSX_eq:vcSX=vcSP:=Classical.choose_spec exS
def regS (P:Program) (cx:Cx) (ops:List AOper) (Q:AE->St->Prop) (σ:St):Prop:=vcX P cx (.sregion ops) Q σ
theorem regS_path{P:Program}{cx:Cx}{ops:List AOper}{Q:AE->St->Prop}{σ:St}(os:List Out) (h:vcSX P cx Q os (marks ops) σ):regS P cx ops Q σ:=by
 unfold regS;rw [vcX_eq];exact⟨os,by rw [vcSX_eq] at h;exact h⟩
theorem vcSX_nil(P:Program) (cx:Cx) (Q:AE->St->Prop) (os:List Out) (s:List (Nat×Bool×AV)) (h:List (Nat×HO)) (d:List DE):vcSX P cx Q os [] ⟨s,h,d⟩=Q .normal ⟨s,h,d⟩:=by
 rw [vcSX_eq];cases os <;> rw [vcSP]
theorem vcSX_cons(P:Program) (cx:Cx) (Q:AE->St->Prop) (os:List Out) (fl:Bool) (dst:Option Nat) (gd:Option (Nat×Bool)) (k:AK) (r:List (Bool×AOper)) (s:List (Nat×Bool×AV)) (h:List (Nat×HO)) (d:List DE) :
  vcSX P cx Q os ((fl,⟨dst,gd,k⟩)::r) ⟨s,h,d⟩=(match gEff s gd with
  | none=>False
  | some (false,_)=>match k with
   | .call _ _ | .acall _ _=>vcSX P cx Q os.tail r ⟨putS s dst (false,.d (.lit (.bool false))),h,d⟩
   | .panic _ | .defer _ _=>False
   | _=>vcSX P cx Q os r ⟨putS s dst (false,.d (.lit (.bool false))),h,d⟩
  | some (true,_)=>match k with
   | .call f args=>match os with
    | []=>False
    | o::os'=>match evL s (f::args) with
     | some (gs,fv::vs)=>match calleeA fv vs with
      | some (fid,all)=>match argsD h all with
       | some (ds,snap)=>(allT gs∧cx.C fid ds o)∧match o with
        | .ret d'=>(snap=true->Free d')∧vcSX P cx Q os' r ⟨putS s dst (true,.d d'),h,d⟩
        | .pan d'=>(snap=true->Free d')∧Q (.pan d') ⟨s,h,d⟩
        | .app _ _=>False
        | .retM es=>snap=false∧vcSX P cx Q os' r ⟨putS s dst (true,.mp (newName h)),updH h [(newName h,.mapo (es.map fun e=>(e.1,AV.d e.2)))],d⟩
       | none=>False
      | none=>False
     | _=>False
   | .acall f args=>match os with
    | .app sz' es'::os'=>match evL s (f::args) with
     | some (gs,fv::vs)=>match calleeA fv vs with
      | some (fid,a0::all)=>match rowA h a0,argsD h all with
       | some (sz,es,_,ru),some (ds,false)=>(allT gs∧sz'=sz∧cx.C fid (.sl sz es::ds) (.app sz es'))∧vcSX P cx Q os' r ⟨putS s dst (true,.own (newName h) sz es'),updH h ((newName h,.row)::ru),d⟩
       | _,_=>False
      | _=>False
     | _=>False
    | _=>False
   | .op x=>match evL s x.opds with
    | none=>False
    | some (gs,vs)=>match stepV h x vs with
     | none=>False
     | some e=>(gcond x gs vs∧e.c)∧match fl with
      | true=>(match dst,e.v with
       | some t,.d (.lit (.bool c))=>(if c=true then vcSX P cx Q os r ⟨(t,true,.d (.lit (.bool true)))::s,updH h e.up,d⟩ else True) ∧
        (if c=false then vcSX P cx Q os r ⟨(t,true,.d (.lit (.bool false)))::s,updH h e.up,d⟩ else True)
       | _,_=>False)
      | false=>vcSX P cx Q os r ⟨putS s dst (true,e.v),updH h e.up,d⟩
   | .icall f args=>match evL s (f::args) with
    | some (gs,fv::vs)=>allT gs∧match calleeA fv vs with
     | some (fid,all)=>icallP P cx (vcSX P cx Q os r) Q dst s h d fid all
     | none=>False
    | _=>False
   | .ycall f args=>match evL s (f::args) with
    | some (gs,.d (.fn (.yield l) [] [])::vs)=>allT gs∧l=cx.l∧cx.Y vs h (ycallK (vcSX P cx Q os r) dst s d)
    | _=>False
   | .panic x=>gd=none∧match evO s x with
    | some (true,.d (.ifc t y))=>Q (.pan (.ifc t y)) ⟨s,h,d⟩
    | _=>False
   | .defer f args=>gd=none∧dst=none∧cx.top=true∧match evL s (f::args) with
    | some (gs,fv::vs)=>allT gs∧match deferA fv vs with
     | some de=>vcSX P cx Q os r ⟨s,h,de::d⟩
     | none=>False
    | _=>False):=by
 simp only [vcSX_eq]
 conv=>lhs;unfold vcSP
 rfl
def regK (P:Program) (cx:Cx) (bf:List (List Nat)) (k:Nat) (ops:List AOper) (Q:AE->St->Prop) (σ:St):Prop:=vcX P cx (.dregion bf k ops) Q σ
theorem regK_path{P:Program}{cx:Cx}{bf:List (List Nat)}{k:Nat}{ops:List AOper}{Q:AE->St->Prop}{σ:St}(os1 os2:List Out)
  (h:vcOpsX true cx.C (fun _ _=>False) (fun R σ'=>conflictR R bf=true∧vcSX P cx Q os2 (marks (ops.drop k)) σ') os1 (marks (ops.take k)) σ []):regK P cx bf k ops Q σ:=by
 unfold regK;rw [vcX_eq];exact⟨os1,os2,by rw [vcOpsX_eq,vcSX_eq] at h;exact h⟩
def regI (P:Program) (cx:Cx) (bf:List (List Nat)) (k m:Nat) (ops:List AOper) (Q:AE->St->Prop) (σ:St):Prop:=vcX P cx (.iregion bf k m ops) Q σ
theorem regI_path{P:Program}{cx:Cx}{bf:List (List Nat)}{k m:Nat}{ops:List AOper}{Q:AE->St->Prop}{σ:St}(os1 os2 os3:List Out)
  (h:vcOpsX true cx.C (fun _ _=>False) (fun R σ'=>vcMid P cx bf R (ops[k-1]?) (fun R1 σ2=>vcOpsX true cx.C (fun _ _=>False) (fun R2 σ3=>conflictR R2 bf=true∧vcSX P cx Q os3 (marks (ops.drop m)) σ3) os2 (marks ((ops.drop k).take (m-k))) σ2 R1) Q σ') os1 (marks (ops.take (k-1))) σ []) (hk:0<k:=by decide):regI P cx bf k m ops Q σ:=by
 unfold regI;rw [vcX_eq];exact⟨hk,os1,os2,os3,by rw [vcOpsX_eq,vcSX_eq] at h;exact h⟩
def asgK (nl:Nat) (B:Nat->(AE->St->Prop)->St->Prop) (K:Bool->List (Nat×HO)->Prop) (h:List (Nat×HO)):AE->St->Prop:=fun e τ=>match e with
 | .normal=>look τ.h nl=some (.obj 1)∧B (newName h) (roundQ nl K) ⟨τ.s,setH τ.h nl (.obj 2),τ.d⟩
 | _=>False
section
variable {P:Program}{cx:Cx}{Q:AE->St->Prop}{s:List (Nat×Bool×AV)}{h:List (Nat×HO)}{d:List DE}{R:St->Prop}
theorem go_sregion'(ops:List AOper):vcX P cx (.sregion ops) Q ⟨s,h,d⟩=regS P cx ops Q ⟨s,h,d⟩:=rfl
theorem go_dregion(bf:List (List Nat)) (k:Nat) (ops:List AOper):vcX P cx (.dregion bf k ops) Q ⟨s,h,d⟩=regK P cx bf k ops Q ⟨s,h,d⟩:=rfl
theorem go_iregion(bf:List (List Nat)) (k m:Nat) (ops:List AOper):vcX P cx (.iregion bf k m ops) Q ⟨s,h,d⟩=regI P cx bf k m ops Q ⟨s,h,d⟩:=rfl
theorem regI_cg{bf:List (List Nat)}{k m:Nat}{ops:List AOper}{σ σ':St}(h:σ=σ'):regI P cx bf k m ops Q σ=regI P cx bf k m ops Q σ':=by rw [h]
theorem vcMid_eq{bf:List (List Nat)}{L:List Li}{dst:Option Nat}{f:Opd}{args:List Opd}{K:List Li->St->Prop}:vcMid P cx bf L (some ⟨dst,none,.icall f args⟩) K Q ⟨s,h,d⟩=((L.all fun l=>l.up.isEmpty)=true∧conflictR (⟨dst,(ents s (f::args)).map (·.1),[],[]⟩::L) bf=true∧match evL s (f::args) with
  | some (gs,fv::vs)=>allT gs∧match calleeA fv vs with
   | some (fid,all)=>icallD P cx (fun σ'=>sameIn L h σ'.h∧K (⟨dst,(ents s (f::args)).map (·.1),[],[]⟩::L) σ') Q dst s h d fid all
   | none=>False
  | _=>False):=rfl
theorem icallD_cg{dst:Option Nat}{s s':List (Nat×Bool×AV)}{h h':List (Nat×HO)}{d d':List DE}{fid:FuncId}{all all':List AV}(e1:s=s') (e2:h=h') (e3:d=d') (e4:all=all'):icallD P cx R Q dst s h d fid all=icallD P cx R Q dst s' h' d' fid all':=by rw [e1,e2,e3,e4]
theorem icallK0_ret{dst:Option Nat}{v:AV}{h':List (Nat×HO)}:icallK0 R Q dst s d (.ret v) h'=R ⟨putS s dst (true,v),h',d⟩:=rfl
theorem icallK0_pan{dst:Option Nat}{x:D}{h':List (Nat×HO)}:icallK0 R Q dst s d (.pan x) h'=Q (.pan x) ⟨[],h',d⟩:=rfl
theorem sameIn_nil{h h':List (Nat×HO)}:sameIn [] h h'=True:=by simp [sameIn]
theorem sameIn_cons{l:Li}{L:List Li}{h h':List (Nat×HO)}:sameIn (l::L) h h'=((∀ n∈l.hin,look h' n=look h n)∧sameIn L h h'):=by simp [sameIn]
theorem regK_cg{bf:List (List Nat)}{k:Nat}{ops:List AOper}{σ σ':St}(h:σ=σ'):regK P cx bf k ops Q σ=regK P cx bf k ops Q σ':=by rw [h]
theorem icallK_ret{dst:Option Nat}{v:AV}{h':List (Nat×HO)}:icallK R Q dst s d (.ret v) h'=R ⟨putS s dst (true,v),h',d⟩:=rfl
theorem icallK_pan{dst:Option Nat}{x:D}{h':List (Nat×HO)}:icallK R Q dst s d (.pan x) h'=Q (.pan x) ⟨s,h',d⟩:=rfl
theorem ycallK_eq{dst:Option Nat}{b:Bool}{h':List (Nat×HO)}:ycallK R dst s d b h'=R ⟨putS s dst (true,.d (.lit (.bool b))),h',d⟩:=rfl
theorem regS_cg{ops:List AOper}{σ σ':St}(h:σ=σ'):regS P cx ops Q σ=regS P cx ops Q σ':=by rw [h]
theorem icallP_cg{dst:Option Nat}{s s':List (Nat×Bool×AV)}{h h':List (Nat×HO)}{d d':List DE}{fid:FuncId}{all all':List AV}(e1:s=s') (e2:h=h') (e3:d=d') (e4:all=all'):icallP P cx R Q dst s h d fid all=icallP P cx R Q dst s' h' d' fid all':=by rw [e1,e2,e3,e4]
theorem vcSX_cg{ops ops':List (Bool×AOper)}{os os':List Out}{σ σ':St}(h0:os=os') (h1:ops=ops') (h:σ=σ'):vcSX P cx Q os ops σ=vcSX P cx Q os' ops' σ':=by rw [h0,h1,h]
theorem yieldY_eq{ps:List Nat}{nl:Nat}{A B:Nat->(AE->St->Prop)->St->Prop}{args:List AV}{K:Bool->List (Nat×HO)->Prop} :
  yieldY ps nl s A B args h K=(look h nl=some (.obj 1)∧args.length=ps.length∧A (newName h) (asgK nl B K h) ⟨putSs s ps args,h,[]⟩):=rfl
theorem asgK_n{nl:Nat}{B:Nat->(AE->St->Prop)->St->Prop}{K:Bool->List (Nat×HO)->Prop}{h0:List (Nat×HO)}:asgK nl B K h0 .normal ⟨s,h,d⟩=(look h nl=some (.obj 1)∧B (newName h0) (roundQ nl K) ⟨s,setH h nl (.obj 2),d⟩):=rfl
theorem roundQ_n{nl:Nat}{K:Bool->List (Nat×HO)->Prop}:roundQ nl K .normal ⟨s,h,d⟩=(look h nl=some (.obj 2)∧K true (setH h nl (.obj 1))):=rfl
theorem roundQ_r{nl:Nat}{K:Bool->List (Nat×HO)->Prop}:roundQ nl K .ret ⟨s,h,d⟩=(look h nl=some (.obj 2)∧K false (setH h nl (.obj 3))):=rfl
theorem roundQ_e{nl i:Nat}{K:Bool->List (Nat×HO)->Prop}:roundQ nl K (.exit i) ⟨s,h,d⟩=(look h nl=some (.obj 2)∧K false (setH h nl (.obj (i+4)))):=rfl
theorem rangeQ_pan{nd nl:Nat}{x:D}{h':List (Nat×HO)}:rangeQ nd nl s d Q (.pan x) h'=Q (.pan x) ⟨s,h',.mark nd::d⟩:=rfl
theorem rangeQ_ret{nd nl:Nat}{v:AV}{h':List (Nat×HO)}:rangeQ nd nl s d Q (.ret v) h'=(match look h' nl with
  | some (.obj 1)=>Q .normal ⟨s,setH h' nl .dead,.mark nd::d⟩
  | some (.obj 3)=>Q .ret ⟨s,setH h' nl .dead,.mark nd::d⟩
  | some (.obj (id+4))=>Q (.exit id) ⟨s,setH h' nl .dead,.mark nd::d⟩
  | _=>False):=rfl
theorem vc_range{g:Opd}{ps:List Nat}{asg b:AC}(T:Cx->List AV->List (Nat×HO)->(HOut->List (Nat×HO)->Prop)->Prop){fv:AV}{fid:FuncId}{all:Nat->List AV}(hT:HCall P fid T)
  (htop:cx.top=true) (hev:evO s g=some (true,fv)) (hc:∀ l,calleeA fv [.d (.fn (.yield l) [] [])]=some (fid,all l))
  (hk:∀ l,T {B:=newName h+2,top:=true,l:=l,C:=cx.C,Y:=yieldY ps (newName h+1) s (fun B=>vcX P {cx with B:=B,top:=false} asg) (fun B=>vcX P {cx with B:=B,top:=false} b)}
   (all l) (setH (setH h (newName h) (.obj 0)) (newName h+1) (.obj 1)) (rangeQ (newName h) (newName h+1) s d Q)):vcX P cx (.range g ps asg b) Q ⟨s,h,d⟩:=by
 rw [vcX_eq] at hk ⊢
 unfold vc
 refine⟨htop,?_⟩
 simp only [hev]
 intro l
 simp only [hc]
 exact⟨T,hT,hk l⟩
theorem TF_eq{fn:AF}{all:List AV}{K:HOut->List (Nat×HO)->Prop}:TF P fn cx all h K=(all.length<=fn.nt∧vcX P cx fn.body (endH P cx.C fn K) ⟨argA all 0,h,[]⟩):=by rw [vcX_eq];rfl
end
attribute [congr] regS_cg regK_cg regI_cg icallP_cg icallD_cg vcSX_cg
attribute [simp] go_sregion' go_dregion go_iregion vcMid_eq icallK0_ret icallK0_pan sameIn_nil sameIn_cons vcSX_nil vcSX_cons deferA icallK_ret icallK_pan ycallK_eq yieldY_eq asgK_n roundQ_n roundQ_r roundQ_e rangeQ_pan rangeQ_ret putSs TF_eq
def stop (l:List (Bool×AOper)):List (Bool×AOper):=l
def cutS:Nat->List (Bool×AOper)->List (Bool×AOper)
 | _,[]=>[]
 | 0,x::r=>stop (x::r)
 | k+1,x::r=>x::cutS k r
theorem cutS_nil(k:Nat):cutS k []=[]:=by cases k <;> rfl
theorem cutS_z(x:Bool×AOper) (r:List (Bool×AOper)):cutS 0 (x::r)=stop (x::r):=rfl
theorem cutS_s(k:Nat) (x:Bool×AOper) (r:List (Bool×AOper)):cutS (k+1) (x::r)=x::cutS k r:=rfl
attribute [simp] cutS_nil cutS_z cutS_s
section
variable {P:Program}{cx:Cx}{Q:AE->St->Prop}{σ:St}
end
end

section
open Go Go.Deep
section
variable {H:Type}{enc:TypeId×Value->H}{P:Program}{w:World}
def allI (w:World):Addr->Prop:=fun a=>(w.cell? a).isSome=true
def Shows {α:Type}(enc:TypeId×Value->H) (P:Program) (w:World) (t:TypeId) (f:α->D):Prop :=
 ∀ (fuel:Nat) (cs:List Value) (x:DataW H×List MemPlace),DataW.trod enc P w 0 (fun _=>true) true fuel t cs=some x->∃ y:α,RepL (allI w) w (f y).cells cs.toArray
theorem shows_slice{α:Type}{t e:TypeId}{f:α->D}{sz:Nat}(ht:P.underlying t=some (.slice e)) (hc:P.cellsOf e=sz) (hz:∀ y,(f y).cells.length=sz) (h1:∀ y,∀ c∈(f y).cells,c.one=true)
  (he:Shows enc P w e f):Shows enc P w t (fun l:List α=>.sl sz (l.map f)):=by
 intro fuel cs x h
 rcases open_slice ht h with ⟨rfl,_⟩ | ⟨a,len,cap,m,n,Dt,Pl,rfl,_,hlc,hcm,hm,_,hel⟩
 ·refine⟨[],⟨rfl,fun k c v h1 h2=>?_⟩⟩
  cases k with
  | zero =>
   simp [D.cells] at h1 h2
   subst h1;subst h2
   exact LeD.nil sz _ _ _ .nil
  | succ k=>simp [D.cells] at h1
 ·rw [if_pos rfl] at hm
  subst hm
  have hel':∀ i:Fin len,∃ y:α,∀ j c,(f y).cells[j]?=some c->∃ v,w.cell? ((a.add (i*sz)).add j)=some v∧Rep (allI w) w c v:=by
   intro i
   obtain⟨cs',h3,h4⟩:=hel i (by omega)
   obtain⟨y,hy⟩:=he _ _ _ h4
   refine⟨y,fun j c hj=>?_⟩
   have hlen:cs'.length=(f y).cells.length:=by simpa using hy.1
   have hjlt:j<(f y).cells.length:=by
    rcases Nat.lt_or_ge j (f y).cells.length with h' | h'
    ·exact h'
    ·rw [List.getElem?_eq_none h'] at hj;cases hj
   have hv:cs'[j]?=some (cs'[j]'(by omega)):=List.getElem?_eq_getElem (by omega)
   refine⟨cs'[j]'(by omega),?_,hy.2 j c _ hj (by simpa using hv)⟩
   rw [hc] at h3
   obtain⟨_,h5,h6⟩:=World.cells?_some h3
   rw [h6 j (by rw [hz] at hjlt;omega),hv]
  let l:List α:=List.ofFn fun i:Fin len=>Classical.choose (hel' i)
  have hll:l.length=len:=by simp [l]
  have hcell:∀ i (hi:i<len) j c,(f (l[i]'(by omega))).cells[j]?=some c->∃ v,w.cell? ((a.add (i*sz)).add j)=some v∧Rep (allI w) w c v:=by
   intro i hi
   have:=Classical.choose_spec (hel' ⟨i,hi⟩)
   simpa [l] using this
  have hzz:∀ e∈l.map f,e.cells.length=sz:=by
   intro e he
   obtain⟨y,_,rfl⟩:=List.mem_map.1 he
   exact hz y
  have hone:∀ c∈D.flat (l.map f),c.one=true:=by
   intro c hc
   obtain⟨e,he,hc⟩:=List.mem_flatMap.1 hc
   obtain⟨y,_,rfl⟩:=List.mem_map.1 he
   exact h1 y c hc
  have hflat:∀ k c,(D.flat (l.map f))[k]?=some c->∃ v,w.cell? (a.add k)=some v∧Rep (allI w) w c v:=by
   intro k c hk
   have hlen:=flat_len hzz
   have hkl:k<(D.flat (l.map f)).length:=by
    rcases Nat.lt_or_ge k (D.flat (l.map f)).length with h' | h'
    ·exact h'
    ·rw [List.getElem?_eq_none h'] at hk;cases hk
   rw [hlen,List.length_map,hll] at hkl
   have hsz:0<sz:=by
    rcases Nat.eq_zero_or_pos sz with h0 | h0
    ·rw [h0] at hkl;omega
    ·exact h0
   have hi:k / sz<len:=(Nat.div_lt_iff_lt_mul hsz).2 hkl
   have hj:k % sz<sz:=Nat.mod_lt _ hsz
   have e1:k / sz*sz+k % sz=k:=by rw [Nat.mul_comm];exact Nat.div_add_mod k sz
   have hget:(l.map f)[k / sz]?=some (f (l[k / sz]'(by omega))):=by simp [hll,hi]
   have:=flat_get hzz hget (k % sz) hj
   rw [e1,hk] at this
   obtain⟨v,h3,h4⟩:=hcell (k / sz) hi (k % sz) c this.symm
   rw [add_add,e1] at h3
   exact⟨v,h3,h4⟩
  refine⟨l,⟨rfl,fun k c v hk hv=>?_⟩⟩
  cases k with
  | succ k=>simp [D.cells] at hk
  | zero =>
   simp [D.cells] at hk hv
   subst hk;subst hv
   refine .sl a (fun k=>(w.cell? (a.add k)).getD undef) (by simp [hll]) hlc (by unfold maxLen at hcm;omega) (.inl rfl) hzz hone (fun k c hk=>?_) (fun k c hk=>?_)
   ·obtain⟨v,h3,_⟩:=hflat k c hk
    exact⟨by simp [allI,h3],by simp [h3]⟩
   ·obtain⟨v,h3,h4⟩:=hflat k c hk
    simpa [h3] using h4
end
end

section
open Go Go.Deep Go.ChangeShapes Go.WideShapes
section
variable {H:Type}{enc:TypeId×Value->H}{P:Program}{w:World}
theorem repL_one{I:Addr->Prop}{d:D}{v:Value}(h:Rep I w d v):RepL I w [d] #[v]:=⟨rfl,fun k c u h1 h2=>by
 cases k with
 | zero=>simp at h1 h2;subst h1;subst h2;exact h
 | succ k=>simp at h1⟩
theorem shows_u8{t:TypeId}(ht:P.underlying t=some (.int .u8)):Shows enc P w t dU:=by
 intro fuel cs x h
 obtain⟨n,rfl,_,hw⟩:=DataW.trod_int ht h
 have hw':0<=n∧n<=255:=by simpa [Lit.wf,IntKind.min,IntKind.max,IntKind.signed,IntKind.bits] using hw
 refine⟨UInt8.ofNat n.toNat,repL_one ?_⟩
 have e:((UInt8.ofNat n.toNat).toNat:Int)=n:=by
  rw [UInt8.toNat_ofNat'];omega
 unfold dU
 rw [e]
 exact .lit (by simpa [Sc,Lit.wf] using hw)
theorem shows_map{α β:Type}{t:TypeId}{f:α->D}{g:β->D}(h:Shows enc P w t f) (hg:∀ y,∃ z,g z=f y):Shows enc P w t g:=by
 intro fuel cs x hx
 obtain⟨y,hy⟩:=h fuel cs x hx
 obtain⟨z,hz⟩:=hg y
 exact⟨z,by rw [hz];exact hy⟩
theorem repL_append{I:Addr->Prop}{ds es:List D}{xs ys:List Value}(h:RepL I w ds xs.toArray) (k:RepL I w es ys.toArray):RepL I w (ds++es) (xs++ys).toArray:=by
 have hl:xs.length=ds.length:=by simpa using h.1
 refine⟨by simp [hl];have:=k.1;simpa using this,fun i c v h1 h2=>?_⟩
 simp at h2
 rcases Nat.lt_or_ge i ds.length with hi | hi
 ·rw [List.getElem?_append_left hi] at h1
  rw [List.getElem?_append_left (by omega)] at h2
  exact h.2 i c v h1 (by simpa using h2)
 ·rw [List.getElem?_append_right hi] at h1
  rw [List.getElem?_append_right (by omega),hl] at h2
  exact k.2 _ c v h1 (by simpa using h2)
def ShowsR {α:Type}(enc:TypeId×Value->H) (P:Program) (w:World) (fs:List Field) (off:Nat) (g:α->List D):Prop :=
 ∀ (n:Nat) (cs:List Value),(∀ fd∈fs,∃ x,DataW.trod enc P w 0 (fun _=>true) true n fd.type ((cs.drop fd.offset).take (P.cellsOf fd.type))=some x)->cs.length=off+(fs.map fun fd=>P.cellsOf fd.type).sum ->
  ∃ y,RepL (allI w) w (g y) (cs.drop off).toArray
theorem showsR_nil{off:Nat}:ShowsR enc P w [] off (fun _:Unit=>[]):=by
 intro n cs _ hl
 refine⟨(),⟨?_,fun k c v hk=>by simp at hk⟩⟩
 have:cs.length=off:=by simpa using hl
 simp;omega
theorem showsR_cons{α β:Type}{fd:Field}{fs:List Field}{off off':Nat}{t:TypeId}{f:α->D}{g:β->List D}(ho:fd.offset=off) (ht:fd.type=t) (hs:off+P.cellsOf t=off') (h:Shows enc P w t f) (hr:ShowsR enc P w fs off' g) :
  ShowsR enc P w (fd::fs) off (fun y:α×β=>(f y.1).cells++g y.2):=by
 intro n cs hall hl
 obtain⟨x,hx⟩:=hall fd (by simp)
 rw [ho,ht] at hx
 obtain⟨a,ha⟩:=h _ _ _ hx
 obtain⟨b,hb⟩:=hr n cs (fun fd hfd=>hall fd (by simp [hfd])) (by rw [hl];simp [ht];omega)
 refine⟨(a,b),?_⟩
 have e:cs.drop off=(cs.drop off).take (P.cellsOf t)++cs.drop off':=by
  rw [<- hs,<- List.drop_drop,List.take_append_drop]
 rw [e]
 exact repL_append ha hb
theorem shows_structN{α:Type}{t:TypeId}{fs:Array Field}{g:α->List D}(ht:P.underlying t=some (.struct fs)) (hc:P.cellsOf t=(fs.toList.map fun fd=>P.cellsOf fd.type).sum) (h:ShowsR enc P w fs.toList 0 g):Shows enc P w t (fun y=>.agg (g y)):=by
 intro fuel cs x hx
 obtain⟨xs,n,_,_,hl,hlen,hf⟩:=DataW.trod_struct ht hx
 obtain⟨y,hy⟩:=h n cs (fun fd hfd=>by
  obtain⟨i,hi⟩:=List.getElem?_of_mem hfd
  have hlt:i<xs.length:=by
   rw [hlen]
   rcases Nat.lt_or_ge i fs.size with h' | h'
   ·exact h'
   ·rw [List.getElem?_eq_none (by simpa using h')] at hi;cases hi
  exact⟨xs[i],by simpa [hlt] using hf i fd (by simpa using hi)⟩) (by rw [hl,hc];simp)
 exact⟨y,by simpa [D.cells] using hy⟩
theorem shows_str{t:TypeId}(ht:P.underlying t=some .string):Shows enc P w t (fun s:List UInt8=>.lit (.string ⟨s.toArray⟩)):=by
 intro fuel cs x h
 cases fuel with
 | zero=>simp [DataW.trod] at h
 | succ fuel =>
  unfold DataW.trod at h
  rw [ht] at h
  match cs,h with
  | [.string s],h =>
   simp only at h
   split at h
   ·rename_i hs
    refine⟨s.data.toList,⟨rfl,fun k c v hk hv=>?_⟩⟩
    cases k with
    | zero =>
     simp [D.cells] at hk hv
     subst hk;subst hv
     exact .lit hs
    | succ k=>simp [D.cells] at hk
   ·cases h
end
end

section
open Go Go.ChangeShapes Go.WideShapes Go.RowKit
def Sees (P:Program) (t:TypeId) (K:D->Prop):Prop:=∀ {H:Type}(enc:TypeId×Value->H) (W:World) (base:Nat) (v:Value) (d:DataW H) (p:List MemPlace),
 Value.okWide P W .any base t v->DataW.Trod enc P W 0 (fun _=>true) true t v d p->∃ x,K x∧Rep (allI W) W x v
theorem sees_one{α:Type}{P:Program}{t:TypeId}{f:α->D}(hs:∀ {H:Type}{enc:TypeId×Value->H}{w:World},Shows enc P w t f) (hf:∀ y,(f y).cells=[f y])
  (hv:∀ (W:World) (base:Nat) (v:Value),Value.okWide P W .any base t v->v.cells=#[v]):Sees P t (fun x=>∃ y,x=f y):=by
 intro H enc W base v d p hval ht
 obtain⟨fuel,ht⟩:=ht
 obtain⟨y,hy⟩:=hs _ _ _ ht
 refine⟨f y,⟨y,rfl⟩,?_⟩
 rw [hf y,hv W base v hval] at hy
 exact hy.2 0 _ v rfl rfl
theorem sees_slice{α:Type}{P:Program}{t e:TypeId}{sz:Nat}{f:α->D}(hu:P.underlying t=some (.slice e)) (hs:∀ {H:Type}{enc:TypeId×Value->H}{w:World},Shows enc P w t (fun l:List α=>.sl sz (l.map f))) :
  Sees P t (fun x=>∃ l:List α,x=.sl sz (l.map f)) :=
 sees_one hs (fun _=>rfl) (fun W base v hv=>by
  unfold Value.okWide at hv
  rw [hu] at hv
  unfold Cell.okWide at hv
  rw [hu] at hv
  cases v <;> first
   | rfl
   | (exfalso;simp [Cell.ok,hu] at hv;done))
theorem sees_int{P:Program}{t:TypeId}{k:IntKind}(hu:P.underlying t=some (.int k)):Sees P t (fun x=>∃ n:Int,(k.min<=n∧n<=k.max)∧x=.lit (.int k n)):=by
 intro H enc W base v d p hval ht
 obtain⟨n,rfl,_,_,hwf⟩:=open_int hu hval ht
 have hr:k.min<=n∧n<=k.max:=by simpa [Lit.wf] using hwf
 exact⟨_,⟨n,hr,rfl⟩,.lit hr⟩
theorem trodAll_below{H:Type}{enc:TypeId×Value->H}{P:Program}(hl:laidOutB P=true){W W':World}(hb:Below W.heap.size W W'):∀ {ts:List TypeId}{vs:List Value}{ds:List (DataW H)}{ps:List MemPlace},(∀ t∈ts,P.readableRec t=true∧t<P.types.size) ->
  DataW.TrodAll enc P W 0 (fun _=>true) true ts vs ds ps->(∀ x∈ps,x.block<W.heap.size)->DataW.TrodAll enc P W' 0 (fun b=>decide (b<W.heap.size)) true ts vs ds ps
 | [],vs,ds,ps,_,h,_=>by
  obtain⟨rfl,rfl,rfl⟩:=trodAll_nil h
  exact rfl
 | t::ts,vs,ds,ps,hr,h,hlt=>by
  obtain⟨v,vs',d,ds',p,q,rfl,rfl,rfl,h1,h2⟩:=trodAll_cons h
  exact⟨p,q,Below.trod hl (hr t (by simp)).1 (hr t (by simp)).2 h1 hb (fun x hx=>hlt x (by simp [hx])),trodAll_below hl hb (fun t ht=>hr t (by simp [ht])) h2 (fun x hx=>hlt x (by simp [hx])),rfl⟩
theorem sees_all{H:Type}{enc:TypeId×Value->H}{P:Program}{W:World}{base:Nat}:∀ {ts:List TypeId}{Ks:List (D->Prop)}{vs:List Value}{ds:List (DataW H)}{ps:List MemPlace},All2 (fun t K=>Sees P t K) ts Ks ->
  (∀ (j:Nat) (t:TypeId) (v:Value),ts[j]?=some t->vs[j]?=some v->Value.okWide P W .any base t v)->DataW.TrodAll enc P W 0 (fun _=>true) true ts vs ds ps ->
  ∃ xs:List D,All2 (fun(K:D->Prop) d=>K d) Ks xs∧vs.length=xs.length∧∀ (k:Nat) (c:D) (v:Value),xs[k]?=some c->vs[k]?=some v->Rep (allI W) W c v
 | [],[],vs,ds,ps,.nil,_,h=>by
  obtain⟨rfl,rfl,rfl⟩:=trodAll_nil h
  exact⟨[],.nil,rfl,fun k c v hk=>by simp at hk⟩
 | t::ts,K::Ks,vs,ds,ps,.cons h1 h2,hv,h=>by
  obtain⟨v,vs',d,ds',p,q,rfl,rfl,rfl,g1,g2⟩:=trodAll_cons h
  obtain⟨x,hx,hr⟩:=h1 enc W base v d p (hv 0 t v rfl rfl) g1
  obtain⟨xs,e1,e2,e3⟩:=sees_all h2 (fun j t v hj hv'=>hv (j+1) t v (by simpa using hj) (by simpa using hv')) g2
  refine⟨x::xs,.cons hx e1,by simp [e2],fun k c u hk hu=>?_⟩
  cases k with
  | zero=>simp at hk hu;subst hk;subst hu;exact hr
  | succ k=>exact e3 k c u (by simpa using hk) (by simpa using hu)
theorem below_of_grow{w w':World}(h:Grow w w'):Below w.heap.size w w':=⟨h.os,h.tape,h.output,h.size,h.block⟩
theorem law_contract{H:Type}{enc:TypeId×Value->H}{P:Program}{fid:FuncId}{F:Func}{s:ChangeSpec}{ts:List TypeId}{Ks:List (D->Prop)}{tb:TypeId}(hl:laidOutB P=true)
  (hparams:F.params.toList=ts) (hres:F.resultTypes.toList=[tb]) (hb:P.underlying tb=some .bool) (hvars:s.vars=[])
  (hfn:∀ ds:List (DataW H),ds.length=ts.length->s.fn H ds={results:=[.lit (.bool true)],args:=ds})
  (hread:(ts.all fun t=>P.readableRec t&&decide (t<P.types.size))=true) (hS:All2 (fun t K=>Sees P t K) ts Ks)
  (hP:∀ ds,All2 (fun(K:D->Prop) d=>K d) Ks ds->PCall P fid ds (.ret (dB true)))
  (W:World) (base:Nat) (args:Array Value) (ds gs:List (DataW H)) (before:List MemPlace)
  (hgl:GlOk (allI W) W) (hval:∀ (j:Nat) t v,F.params[j]?=some t->args[j]?=some v->Value.okWide P W .any base t v)
  (hW:DataW.Whole enc P F.params.toList s.vars false W args.toList ds gs before) :
  Calls P fid args W fun e W'=>∃ v,e=.returned v∧s.post enc P F false true false false W args v W':=by
 have hW':=hW
 have hlt:=fun x hx=>hW'.lt x hx
 obtain⟨p,q,hA,hV,rfl,_,_⟩:=hW
 rw [hvars] at hV
 obtain⟨rfl,rfl⟩:=trodVars_none hV
 rw [hparams] at hA
 obtain⟨xs,e1,e2,e3⟩:=sees_all hS (fun j t v hj hv=>hval j t v (by rw [<- hparams] at hj;simpa using hj) (by simpa using hv)) hA
 refine((hP xs e1).2 (allI W) W args (fun a h=>h) hgl ⟨by simpa using e2,fun k c v hk hv=>e3 k c v hk (by simpa using hv)⟩).mono fun e W' hR=>?_
 obtain⟨I',v,_,_,_,hg,he,hv⟩:=hR
 have hbw:=below_of_grow hg
 have hvb:v=.bool true:=by cases hv;rfl
 subst hvb
 have hlen:ds.length=ts.length:=(trodAll_length hA).2
 have hf:=hfn ds hlen
 have hsz:F.resultTypes.size=1:=by have:=congrArg List.length hres;simpa using this
 refine⟨_,he,⟨ds,[],_,[],p,[],hW',?_,?_,?_,hbw.frame _,fun h=>by cases h⟩⟩
 ·rw [List.append_nil,hf,hres,hsz]
  exact trodAll_mk1 (shut_bool hb true)
 ·rw [List.append_nil,hf,hparams]
  exact trodAll_below hl hbw (fun t ht=>by have:=List.all_eq_true.1 hread t ht;simpa using this) hA (fun x hx=>hlt x (by simp [hx]))
 ·rw [List.append_nil,hf,hvars];rfl
end

section
def frz (h:List (Nat×HO)):Nat->AV->D->Prop
 | _,.d x,y=>LeD x y
 | _,.own _ sz es,y=>LeD (.sl sz es) y
 | _,.e0 z,y=>LeD (.sl z []) y
 | _,.bsl n o z l _,y=>match look h n with
  | some (.box _ cs)=>match allD cs with
   | some ds=>o+l*z<=ds.length∧LeD (.sl z (elsD z l (ds.drop o))) y
   | none=>False
  | _=>False
 | _,.ptr _ _,.any=>True
 | k+1,.ptr n o,.ip x=>match look h n with
  | some (.box _ cs)=>frzL h k ((cs.drop o).take x.cells.length) x.cells∧∀ c∈x.cells,c.one=true
  | _=>False
 | k+1,.fn f a b,.fn f' a' b'=>f=f'∧frzL h k a a'∧frzL h k b b'
 | k+1,.agg cs,.agg ds=>frzL h k cs ds∧∀ c∈ds,c.one=true
 | k+1,.tup cs,.tup ds=>frzL h k cs ds
 | _,_,_=>False
where frzL (h:List (Nat×HO)) (k:Nat):List AV->List D->Prop
 | [],[]=>True
 | c::r,c'::r'=>frz h k c c'∧frzL h k r r'
 | _,_=>False
theorem frz_rep{E:Env}{G:Gh}{h:List (Nat×HO)}{w:World}(H:WRel E G (look h) w){I':Addr->Prop}(hI:∀ a,G.I a->I' a) (hB:∀ n a,G.box n=some a.block->(w.cell? a).isSome=true->I' a) :
  ∀ (k:Nat) (v:AV) (d:D),frz h k v d->∀ {x:Value},RepA G w v x->Rep I' w d x:=by
 have hk0:∀ a,G.I a->I' a∧w.cell? a=w.cell? a:=fun a ha=>⟨hI a ha,rfl⟩
 have hown:∀ {r sz:Nat}{es:List D}{y:D}{x:Value},LeD (.sl sz es) y->RepA G w (.own r sz es) x->Rep I' w y x:=fun hl hr=>by
  obtain⟨A,n,cap,rfl,g1,g2⟩:=hr.own_inv
  exact hl _ _ _ (g2.mono hk0)
 have he0:∀ {z:Nat}{y:D}{x:Value},LeD (.sl z []) y->RepA G w (.e0 z) x->Rep I' w y x:=fun hl hr=>by
  cases hr with
  | @e0 _ A =>
   exact hl _ _ _ (.sl ⟨0,0,none⟩ (fun _=>undef) rfl (Nat.le_refl _) (by omega) (.inr rfl) (by simp) (by simp [D.flat]) (by simp [D.flat]) (by simp [D.flat]))
 have hbsl:∀ {n o z l c:Nat}{y:D}{x:Value}{ag:Bool}{cs:List AV}{ds:List D},look h n=some (.box ag cs)->allD cs=some ds->o+l*z<=ds.length->LeD (.sl z (elsD z l (ds.drop o))) y->RepA G w (.bsl n o z l c) x->Rep I' w y x:=fun {n o z l c y x ag cs ds} hlk had hlen hl hr=>by
  obtain⟨b,c',g1,g2,g3,g4,g5,rfl⟩:=bslv hr
  obtain⟨bk,arr,ty,e1,e2,e3,e4⟩:=H.box n ag cs hlk
  rw [g1] at e1;injection e1 with e1;subst e1
  have hes:=allD_eq had
  have e4:=e4.1
  have hone:∀ d∈ds,d.one=true:=fun d hd=>e4 (.d d) (by rw [hes];exact List.mem_map_of_mem hd)
  have hcell:∀ k,w.cell? ⟨b,k,none⟩=arr[k]?:=fun k=>cell_of_row w b k arr ty (0,0) e2
  have hget:∀ k d,ds[k]?=some d->∃ u,arr[k]?=some u∧Rep G.I w d u:=fun k d hk=>by
   have hlt:k<arr.size:=by
    refine Nat.lt_of_lt_of_le ?_ e3.1;rw [hes,List.length_map];exact(List.getElem?_eq_some_iff.1 hk).1
   exact⟨arr[k],Array.getElem?_eq_getElem hlt,(e3.2 k (.d d) _ (by rw [hes];simp [hk]) (Array.getElem?_eq_getElem hlt)).of_d⟩
  obtain⟨q1,q2,q3⟩:=elsD_spec (z:=z) (len:=l) (ds:=ds.drop o) (by simp;omega) (fun d hd=>hone d (List.mem_of_mem_drop hd))
  have hfl:∀ k d,(D.flat (elsD z l (ds.drop o)))[k]?=some d->ds[o+k]?=some d:=fun k d hk=>by
   rw [q3,List.getElem?_take] at hk
   split at hk
   ·rw [List.getElem?_drop] at hk;exact hk
   ·cases hk
  refine hl _ _ _ (.sl ⟨b,o,none⟩ (fun k=>(arr[o+k]?).getD undef) q1.symm (by omega) g4 (.inl rfl) q2 (fun d hd=>?_) (fun k d hk=>?_) (fun k d hk=>?_))
  ·rw [q3] at hd
   exact hone d (List.mem_of_mem_drop (List.mem_of_mem_take hd))
  ·obtain⟨u,h2,_⟩:=hget _ d (hfl k d hk)
   rw [add_mk]
   exact⟨hB n _ g1 (by rw [hcell,h2];rfl),by rw [hcell,h2];rfl⟩
  ·obtain⟨u,h2,h3⟩:=hget _ d (hfl k d hk)
   simp only [h2,Option.getD]
   exact h3.mono hk0
 intro k
 induction k with
 | zero =>
  intro v d hf x hr
  unfold frz at hf
  split at hf
  ·exact hf _ _ _ (hr.of_d.mono hk0)
  ·exact hown hf hr
  ·exact he0 hf hr
  ·split at hf
   ·rename_i hlk
    split at hf
    ·rename_i had;exact hbsl hlk had hf.1 hf.2 hr
    ·exact hf.elim
   ·exact hf.elim
  ·obtain⟨b,rfl,hb⟩:=hr.ptr_inv;exact .any ⟨rfl,rfl⟩
  all_goals (first | exact hf.elim | (rename_i hh;cases hh))
 | succ k ih =>
  have hL:∀ (l:List AV) (m:List D),frz.frzL h k l m->l.length=m.length∧∀ (j:Nat) (d:D),m[j]?=some d->∃ c,l[j]?=some c∧∀ {x:Value},RepA G w c x->Rep I' w d x:=by
   intro l
   induction l with
   | nil =>
    intro m h
    cases m with
    | nil=>exact⟨rfl,fun j d hj=>by simp at hj⟩
    | cons _ _=>simp [frz.frzL] at h
   | cons c r ihl =>
    intro m h
    cases m with
    | nil=>simp [frz.frzL] at h
    | cons d m =>
     simp only [frz.frzL] at h
     obtain⟨i1,i2⟩:=ihl m h.2
     refine⟨by simp [i1],fun j e hj=>?_⟩
     cases j with
     | zero=>simp at hj;subst hj;exact⟨c,rfl,fun hr=>ih c d h.1 hr⟩
     | succ j=>simpa using i2 j e (by simpa using hj)
  intro v d hf x hr
  unfold frz at hf
  split at hf
  ·exact hf _ _ _ (hr.of_d.mono hk0)
  ·exact hown hf hr
  ·exact he0 hf hr
  ·split at hf
   ·rename_i hlk
    split at hf
    ·rename_i had;exact hbsl hlk had hf.1 hf.2 hr
    ·exact hf.elim
   ·exact hf.elim
  ·obtain⟨b,rfl,hb⟩:=hr.ptr_inv;exact .any ⟨rfl,rfl⟩
  ·rename_i n o y heq
   injection heq with heq;subst heq
   split at hf
   ·rename_i ag cs hlk
    obtain⟨b,rfl,hb⟩:=hr.ptr_inv
    obtain⟨b',arr,ty,f1,f2,f3,f4⟩:=H.box n ag cs hlk
    rw [hb] at f1;injection f1 with f1;subst f1
    obtain⟨i1,i2⟩:=hL _ _ hf.1
    have hcell:∀ j,w.cell? ⟨b,j,none⟩=arr[j]?:=fun j=>cell_of_row w b j arr ty (0,0) f2
    have hget:∀ j c,y.cells[j]?=some c->∃ u,arr[o+j]?=some u∧Rep I' w c u:=fun j c hj=>by
     obtain⟨av,h1,h2⟩:=i2 j c hj
     rw [List.getElem?_take] at h1
     split at h1
     ·rw [List.getElem?_drop] at h1
      have hlt:o+j<arr.size:=Nat.lt_of_lt_of_le (List.getElem?_eq_some_iff.1 h1).1 f3.1
      exact⟨arr[o+j],Array.getElem?_eq_getElem hlt,h2 (f3.2 _ av _ h1 (Array.getElem?_eq_getElem hlt))⟩
     ·cases h1
    refine .ip ⟨b,o,none⟩ (fun j=>(arr[o+j]?).getD undef) hf.2 (fun j c hj=>?_) (fun j c hj=>?_)
    ·obtain⟨u,h1,h2⟩:=hget j c hj
     rw [add_mk]
     refine⟨hB n _ hb (by rw [hcell,h1];rfl),by rw [hcell,h1];rfl⟩
    ·obtain⟨u,h1,h2⟩:=hget j c hj
     rw [h1];exact h2
   ·exact hf.elim
  ·rename_i heq;injection heq with heq;subst heq
   obtain⟨rfl,h1,h2⟩:=hf
   obtain⟨x1,x2,rfl,l1,l2,r1,r2⟩:=hr.fn_inv
   obtain⟨i1,i2⟩:=hL _ _ h1
   obtain⟨j1,j2⟩:=hL _ _ h2
   refine .fn (by rw [l1,i1]) (by rw [l2,j1]) (fun j c y hj hy=>?_) (fun j c y hj hy=>?_)
   ·obtain⟨c',hc',hh⟩:=i2 j c hj
    exact hh (r1 j c' y hc' hy)
   ·obtain⟨c',hc',hh⟩:=j2 j c hj
    exact hh (r2 j c' y hc' hy)
  ·rename_i heq;injection heq with heq;subst heq
   obtain⟨vs,rfl,hl,hv⟩:=hr.agg_inv
   obtain⟨i1,i2⟩:=hL _ _ hf.1
   refine .agg (by rw [hl,i1]) hf.2 (fun j c y hj hy=>?_)
   obtain⟨c',hc',hh⟩:=i2 j c hj
   exact hh (hv j c' y hc' hy)
  ·rename_i heq;injection heq with heq;subst heq
   obtain⟨vs,rfl,hl,hv⟩:=hr.tup_inv
   obtain⟨i1,i2⟩:=hL _ _ hf
   refine .tup (by rw [hl,i1]) (fun j c y hj hy=>?_)
   obtain⟨c',hc',hh⟩:=i2 j c hj
   exact hh (hv j c' y hc' hy)
  ·exact hf.elim
def retZ (d:D) (k:Nat:=4):HOut->List (Nat×HO)->Prop
 | .ret v,h=>frz h k v d
 | .pan _,_=>False
theorem pcall_of_hcallZ{P:Program}{f:FuncId}{T:Cx->List AV->List (Nat×HO)->(HOut->List (Nat×HO)->Prop)->Prop}(hT:HCall P f T){args:List D}{d:D}{C:FuncId->List D->Out->Prop}(hC:∀ f ds out,C f ds out->PCall P f ds out) (k:Nat:=4) (hv:(∀ d∈args,Real d)->T {C:=C} (args.map .d) [] (retZ d k)):PCall P f args (.ret d):=by
 refine⟨hT.1,fun I w vals hI hgl hr=>?_⟩
 have hreal:∀ d∈args,Real d:=fun d hd=>by
  obtain⟨k,hk⟩:=List.getElem?_of_mem hd
  have hlt:k<vals.size:=by
   rw [hr.1]
   rcases Nat.lt_or_ge k args.length with h' | h'
   ·exact h'
   ·rw [List.getElem?_eq_none h'] at hk;cases hk
  exact⟨_,_,_,hr.2 k d _ hk (Array.getElem?_eq_getElem hlt)⟩
 have hv:=hv hreal
 let G:Gh:={I:=I,box:=fun _=>none,row:=fun _=>none}
 let E:Env:={w0:=w,I0:=I,K:=fun b=>b<w.heap.size,B:=0,Gb:=G,wb:=w,gl:=hgl}
 have H:WRel E G (look []) w:=⟨rfl,rfl,rfl,Nat.le_refl _,fun b hb=>⟨hb,rfl⟩,fun a ha=>⟨ha,rfl⟩,fun a ha=>.inl ha,hI,fun n _=>⟨rfl,rfl⟩,fun n ag cs hn=>by simp [look] at hn,fun n b hb=>by simp [G] at hb,fun n m b hb=>by simp [G] at hb,fun r hr=>by simp [look] at hr,fun r r' A n cap sz A' n' cap' sz' hr=>by simp [look] at hr,fun n s hn=>by simp [look] at hn,fun n s hn=>by simp [look] at hn,GLe.refl G w,fun n b hb=>by simp [E,G] at hb,fun n b hb=>by simp [E,G] at hb⟩
 have hcall:=hT.2 E {C:=C} G [] w (args.map .d) vals.toList (retZ d k) H ⟨rfl,fun ro G h w all vals K _ _ hY=>hY.elim,fun _=>rfl,hC⟩ ⟨by simp [hr.1],fun k c u hk hu=>by
  simp only [List.getElem?_map,Option.map_eq_some_iff] at hk
  obtain⟨d,hd,rfl⟩:=hk
  exact .d (hr.2 k d u hd (by simpa using hu))⟩ hv
 rw [show vals.toList.toArray=vals by simp] at hcall
 refine Calls.mono hcall fun e w' hR=>?_
 obtain⟨G',h',H',hR⟩:=hR
 have hgrow:Grow w w':=⟨H'.os,H'.tape,H'.output,H'.size,fun b hb=>(H'.kept b hb).2⟩
 cases e with
 | returned v =>
  obtain⟨av,k1,k2⟩:=hR
  have k2:frz h' k av d:=k2
  refine⟨fun a=>G'.I a∨((∃ n,G'.box n=some a.block)∧(w'.cell? a).isSome=true),v,fun a ha=>.inl (H'.i0 a ha).1,fun a ha=>?_,fun a ha=>?_,hgrow,rfl,frz_rep H' (fun _ h=>.inl h) (fun n a h1 h2=>.inr ⟨⟨n,h1⟩,h2⟩) k _ _ k2 k1⟩
  ·rcases ha with ha | ⟨⟨n,hn⟩,_⟩
   ·exact H'.inew a ha
   ·exact .inr (Nat.le_of_not_lt (H'.bown n _ hn).2.1)
  ·rcases ha with ha | ⟨_,ha⟩
   ·exact H'.icell a ha
   ·exact ha
 | panicked ch =>
  obtain⟨v,d',rfl,k1,k2⟩:=hR
  exact k2.elim
 | outgrown=>exact hR.elim
theorem pcall_of_vcZ{P:Program}{f:FuncId}{fn:AF}{args:List D}{d:D}{C:FuncId->List D->Out->Prop}(hC:∀ f ds out,C f ds out->PCall P f ds out) (hF:CmpF P f fn) (hn:args.length<=fn.nt) (k:Nat:=4)
  (hv:(∀ d∈args,Real d)->vcX P {C:=C} fn.body (endH P C fn (retZ d k)) ⟨argA (args.map .d) 0,[],[]⟩):PCall P f args (.ret d) :=
 pcall_of_hcallZ (hcall_of_vc hF) hC k fun hr=>⟨by simpa using hn,by have:=hv hr;rw [vcX_eq] at this;exact this⟩
section
variable (h:List (Nat×HO)) (k:Nat)
theorem retZ_ret(d:D) (v:AV):retZ d k (.ret v) h=frz h k v d:=rfl
theorem frz_any(n o:Nat):frz h k (.ptr n o) .any=True:=by cases k <;> simp [frz]
theorem frz_d(x y:D):frz h k (.d x) y=LeD x y:=by cases k <;> cases y <;> simp [frz]
theorem frz_own(r sz:Nat) (es:List D) (y:D):frz h k (.own r sz es) y=LeD (.sl sz es) y:=by cases k <;> cases y <;> simp [frz]
theorem frz_e0(z:Nat) (y:D):frz h k (.e0 z) y=LeD (.sl z []) y:=by cases k <;> cases y <;> simp [frz]
theorem frz_bsl(n o z l c:Nat) (y:D):frz h k (.bsl n o z l c) y=match look h n with
  | some (.box _ cs)=>match allD cs with
   | some ds=>o+l*z<=ds.length∧LeD (.sl z (elsD z l (ds.drop o))) y
   | none=>False
  | _=>False:=by cases k <;> cases y <;> simp [frz]
theorem frz_ptr(n o:Nat) (x:D):frz h (k+1) (.ptr n o) (.ip x)=match look h n with
  | some (.box _ cs)=>frz.frzL h k ((cs.drop o).take x.cells.length) x.cells∧∀ c∈x.cells,c.one=true
  | _=>False:=by rw [frz]
theorem frz_fn(f f':Fn) (a b:List AV) (a' b':List D):frz h (k+1) (.fn f a b) (.fn f' a' b')=(f=f'∧frz.frzL h k a a'∧frz.frzL h k b b'):=by rw [frz]
theorem frz_agg(cs:List AV) (ds:List D):frz h (k+1) (.agg cs) (.agg ds)=(frz.frzL h k cs ds∧∀ c∈ds,c.one=true):=by rw [frz]
theorem frz_tup(cs:List AV) (ds:List D):frz h (k+1) (.tup cs) (.tup ds)=frz.frzL h k cs ds:=by rw [frz]
theorem frzL_nil:frz.frzL h k [] []=True:=by rw [frz.frzL]
theorem frzL_cons(c:AV) (c':D) (r:List AV) (r':List D):frz.frzL h k (c::r) (c'::r')=(frz h k c c'∧frz.frzL h k r r'):=by rw [frz.frzL]
end
attribute [simp] retZ_ret frz_any frz_d frz_own frz_e0 frz_bsl frz_ptr frz_fn frz_agg frz_tup frzL_nil frzL_cons
theorem acall_of_vcX{P:Program}{f:FuncId}{fn:AF}{args:List D}{sz:Nat}{es es':List D}{C:FuncId->List D->Out->Prop}(hC:∀ f ds out,C f ds out->PCall P f ds out) (hF:CmpF P f fn) (hn:args.length+1<=fn.nt)
  (hv:Real (.sl sz es)->(∀ d∈args,Real d)->vcX P {C:=C} fn.body (endH P C fn (retA sz es')) ⟨argA (.own 0 sz es::args.map .d) 0,[(0,.row)],[]⟩):PCall P f (.sl sz es::args) (.app sz es') :=
 acall_of_vc hC hF hn fun h1 h2=>by have:=hv h1 h2;rw [vcX_eq] at this;exact this
theorem retA_own(sz:Nat) (es':List D) (r z:Nat) (es:List D) (h:List (Nat×HO)):retA sz es' (.ret (.own r z es)) h=(z=sz∧es=es'∧look h r=some .row):=rfl
theorem rowA_own(hl:List (Nat×HO)) (r sz:Nat) (es:List D):rowA hl (.own r sz es)=match look hl r with
  | some .row=>some (sz,es,[(r,.row)],[(r,.dead)])
  | _=>none:=rfl
theorem rowA_nil(hl:List (Nat×HO)) (sz:Nat):rowA hl (.d (.nil sz))=some (sz,[],[],[]):=rfl
attribute [simp] retA_own rowA_own rowA_nil
theorem fl_t:fl true=some default:=rfl
theorem fl_f:fl false=none:=rfl
attribute [simp] fl_t fl_f
theorem HCall.mono{P:Program}{f:FuncId}{T T':Cx->List AV->List (Nat×HO)->(HOut->List (Nat×HO)->Prop)->Prop}(hT:HCall P f T) (hm:∀ cx all h K,T' cx all h K->T cx all h K):HCall P f T' :=
 ⟨hT.1,fun E cx G h w all vals K H hok hr hk=>hT.2 E cx G h w all vals K H hok hr (hm cx all h K hk)⟩
theorem HCall.withC{P:Program}{f:FuncId}{T:Cx->List AV->List (Nat×HO)->(HOut->List (Nat×HO)->Prop)->Prop}(hT:HCall P f T){C:FuncId->List D->Out->Prop}(hC:∀ f ds out,C f ds out->PCall P f ds out):HCall P f (fun cx=>T {cx with C:=C}) :=
 ⟨hT.1,fun E cx G h w all vals K H hok hr hk=>hT.2 E {cx with C:=C} G h w all vals K H ⟨hok.B,hok.y,hok.top,hC⟩ hr hk⟩
def weakK (B:Nat) (K:HOut->List (Nat×HO)->Prop):HOut->List (Nat×HO)->Prop
 | .ret v,h=>∃ v' τ,Sub B ⟨[(0,true,v)],h,[]⟩ ⟨[(0,true,v')],τ,[]⟩∧K (.ret v') τ
 | .pan d,h=>∃ τ,Sub B ⟨[],h,[]⟩ ⟨[],τ,[]⟩∧K (.pan d) τ
theorem HCall.weak{P:Program}{f:FuncId}{T:Cx->List AV->List (Nat×HO)->(HOut->List (Nat×HO)->Prop)->Prop}(hT:HCall P f T):HCall P f (fun cx all h K=>T cx all h (weakK cx.B K)) :=
 ⟨hT.1,fun E cx G h w all vals K H hok hr hk=>by
  refine Calls.mono (hT.2 E cx G h w all vals (weakK cx.B K) H hok hr hk) fun e w' hR=>?_
  obtain⟨G',h',H',hR⟩:=hR
  cases e with
  | returned v =>
   obtain⟨av,k1,v',τ,k2,k3⟩:=hR
   have hs:StRel E G' ⟨[(0,true,av)],h',[]⟩ (⟨#[v],[]⟩:Act) w' 1:=⟨H',rfl,fun t e he=>(by
    simp only [getS] at he
    split at he
    ·rename_i ht;subst ht
     injection he with he;subst he
     exact⟨v,rfl,fun _=>k1,fun hf=>by cases hf⟩
    ·cases he),All2.nil⟩
   rw [<- hok.B] at k2
   obtain⟨G'',_,hs'⟩:=Sub.rel hs k2
   obtain⟨val,x1,x2,_⟩:=hs'.sr 0 (true,v') rfl
   have:val=v:=by
    have:(#[v]:Array Value)[0]?=some val:=x1
    simpa using this.symm
   subst this
   exact⟨G'',τ,hs'.wr,v',x2 rfl,k3⟩
  | panicked ch =>
   obtain⟨v,d,k1,k2,τ,k3,k4⟩:=hR
   have hs:StRel E G' ⟨[],h',[]⟩ (⟨#[],[]⟩:Act) w' 0:=⟨H',rfl,fun t e he=>(by simp [getS] at he),All2.nil⟩
   rw [<- hok.B] at k3
   obtain⟨G'',hI,hs'⟩:=Sub.rel hs k3
   exact⟨G'',τ,hs'.wr,v,d,k1,by rw [hI];exact k2,k4⟩
  | outgrown=>exact hR.elim⟩
theorem hcall_weak{P:Program}{f:FuncId}{fn:AF}(hF:CmpF P f fn){C:FuncId->List D->Out->Prop}(hC:∀ f ds out,C f ds out->PCall P f ds out){T:Cx->List AV->List (Nat×HO)->(HOut->List (Nat×HO)->Prop)->Prop}
  (hm:∀ cx all h K,T cx all h K->TF P fn {cx with C:=C} all h (weakK cx.B K)):HCall P f T :=
 (((hcall_of_vc hF).withC hC).weak).mono fun cx all h K hk=>hm cx all h K hk
def RepP (I:Addr->Prop) (w:World) (cs:List D) (vs:Array Value):Prop :=
 cs.length<=vs.size∧∀ (k:Nat) (c:D) (v:Value),cs[k]?=some c->vs[k]?=some v->Rep I w c v
def OutB (out:Out) (I:Addr->Prop) (w:World) (e:Ending) (v:Value):Prop :=
 match out with
 | .ret d=>e=.returned v∧Rep I w d v
 | .pan d=>e=.panicked [{v:=v,recovered:=false}]∧Rep I w d v
 | _=>False
def BEnd (I:Addr->Prop) (w:World) (b z:Nat) (out:Out) (R:List D->Prop) (e:Ending) (w':World):Prop :=
 ∃ (I':Addr->Prop) (v:Value) (arr:Array Value) (ty:TypeId) (cs':List D),R cs'∧(∀ a,I a->I' a∧w'.cell? a=w.cell? a)∧(∀ a,I' a->I a∨w.heap.size<=a.block)∧(∀ a,I' a->(w'.cell? a).isSome=true) ∧
  (w'.os=w.os∧w'.tape=w.tape∧w'.output=w.output∧w.heap.size<=w'.heap.size)∧(∀ k,k<w.heap.size->k≠b->w'.heap[k]?=w.heap[k]?) ∧
  w'.heap[b]?=some (.cells arr ty (0,0))∧(∀ a:Addr,a.block=b->¬ I' a)∧z<=arr.size∧RepP I' w' cs' arr∧(∀ c∈cs',c.one=true)∧OutB out I' w' e v
def BCall (P:Program) (f:FuncId) (cs ds:List D) (out:Out) (R:List D->Prop):Prop :=
 Callable P f∧∀ (I:Addr->Prop) (w:World) (b:Nat) (arr:Array Value) (ty:TypeId) (z:Nat) (vals:List Value),(∀ a,I a->(w.cell? a).isSome=true)->GlOk I w->w.heap[b]?=some (.cells arr ty (0,0))->(∀ a:Addr,a.block=b->¬ I a)->z<=arr.size ->
  RepP I w cs arr->(∀ c∈cs,c.one=true)->RepL I w ds vals.toArray->Calls P f (.pointer (some ⟨b,0,none⟩)::vals).toArray w (BEnd I w b z out R)
def boxIs (h:List (Nat×HO)) (cs':List D):Prop :=
 match look h 0 with
 | some (.box _ cs)=>leA.leL noRen noNew noOk 3 cs (cs'.map .d)∧∀ c∈cs',c.one=true
 | _=>False
def retB (out:Out) (R:List D->Prop):HOut->List (Nat×HO)->Prop
 | .ret v,h=>(match out with | .ret d=>leA noRen noNew noOk 3 v (.d d) | _=>False)∧∃ cs',R cs'∧boxIs h cs'
 | .pan x,h=>(match out with | .pan d=>x=d | _=>False)∧∃ cs',R cs'∧boxIs h cs'
theorem bcall_of_hcall{P:Program}{f:FuncId}{T:Cx->List AV->List (Nat×HO)->(HOut->List (Nat×HO)->Prop)->Prop}(hT:HCall P f T){cs ds:List D}{R:List D->Prop}{out:Out}{C:FuncId->List D->Out->Prop}(hC:∀ f ds out,C f ds out->PCall P f ds out)
  (hv:(∀ d∈cs,Real d)->(∀ d∈ds,Real d)->T {C:=C,B:=1} (.ptr 0 0::ds.map .d) [(0,.box true (cs.map .d))] (retB out R)):BCall P f cs ds out R:=by
 refine⟨hT.1,fun I w b arr ty z vals hI hgl hb hnb hz hcs h1 hr=>?_⟩
 have hreal:∀ d∈ds,Real d:=fun d hd=>by
  obtain⟨k,hk⟩:=List.getElem?_of_mem hd
  have hlt:k<vals.toArray.size:=by
   rw [hr.1]
   rcases Nat.lt_or_ge k ds.length with h' | h'
   ·exact h'
   ·rw [List.getElem?_eq_none h'] at hk;cases hk
  exact⟨_,_,_,hr.2 k d _ hk (Array.getElem?_eq_getElem hlt)⟩
 have hrealc:∀ d∈cs,Real d:=fun d hd=>by
  obtain⟨k,hk⟩:=List.getElem?_of_mem hd
  have hlt:k<arr.size:=by
   refine Nat.lt_of_lt_of_le ?_ hcs.1
   rcases Nat.lt_or_ge k cs.length with h' | h'
   ·exact h'
   ·rw [List.getElem?_eq_none h'] at hk;cases hk
  exact⟨_,_,_,hcs.2 k d _ hk (Array.getElem?_eq_getElem hlt)⟩
 have hv:=hv hrealc hreal
 have hblt:b<w.heap.size:=(Array.getElem?_eq_some_iff.1 hb).1
 let G:Gh:={I:=I,box:=fun m=>if m=0 then some b else none,row:=fun _=>none,rc:=fun _=>{(default:Loop) with defers:=z}}
 let E:Env:={w0:=w,I0:=I,K:=fun k=>k<w.heap.size∧k≠b,B:=1,Gb:=G,wb:=w,gl:=hgl,N:=fun k=>w.heap.size<=k∨k=b,hN:=fun _ h=>.inl h}
 have H:WRel E G (look [(0,.box true (cs.map .d))]) w:=⟨rfl,rfl,rfl,Nat.le_refl _,fun k hk=>⟨hk.1,rfl⟩,fun a ha=>⟨ha,rfl⟩,fun a ha=>.inl ha,hI,fun m hm=>⟨by
   simp only [look] at hm
   split at hm
   ·cases hm
   ·rename_i e;simp [G,e],rfl⟩,fun m ag cs1 hm=>(by
   simp only [look] at hm
   split at hm
   ·rename_i e
    injection hm with hm;injection hm with _ hm;subst hm;subst e
    refine⟨b,arr,ty,by simp [G],hb,⟨by simpa using hcs.1,fun k c v hk hv=>?_⟩,fun c hc=>?_,hz⟩
    ·simp only [List.getElem?_map,Option.map_eq_some_iff] at hk
     obtain⟨d,hd,rfl⟩:=hk
     exact .d (hcs.2 k d v hd hv)
    ·obtain⟨d,hd,rfl⟩:=List.mem_map.1 hc
     exact h1 d hd
   ·cases hm),fun m b' hb'=>(by
   simp only [G] at hb'
   split at hb'
   ·injection hb' with hb';subst hb'
    exact⟨hblt,fun hk=>hk.2 rfl,fun _ a e=>hnb a e,.inr rfl⟩
   ·cases hb'),fun m m' b' hm hm' _ _=>(by
   simp only [G] at hm hm'
   split at hm
   ·split at hm'
    ·rename_i e e';rw [e,e']
    ·cases hm'
   ·cases hm),fun r hr'=>(by simp only [look] at hr';split at hr' <;> simp at hr'),fun r r' A1 n1 cap1 sz1 A2 n2 cap2 sz2 h1=>(by simp only [look] at h1;split at h1 <;> simp at h1),fun m s hm=>(by simp only [look] at hm;split at hm <;> simp at hm),fun m s hm=>(by simp only [look] at hm;split at hm <;> simp at hm),GLe.refl G w,⟨fun m b' hm=>(by
   simp only [E,G] at hm
   split at hm
   ·rename_i e;subst e;exact Nat.zero_lt_one
   ·cases hm),fun m r hm=>(by simp [E,G] at hm)⟩⟩
 have hcall:=hT.2 E {C:=C,B:=1} G [(0,.box true (cs.map .d))] w (.ptr 0 0::ds.map .d) (.pointer (some ⟨b,0,none⟩)::vals) (retB out R) H ⟨rfl,fun ro G h w all vals K _ _ hY=>hY.elim,fun _=>rfl,hC⟩ ⟨by have:=hr.1;simp at this;simp [this],fun k c u hk hu=>by
  cases k with
  | zero =>
   simp at hk hu;subst hk;subst hu
   exact .ptr (by simp [G])
  | succ k =>
   simp only [List.getElem?_cons_succ,List.getElem?_map,Option.map_eq_some_iff] at hk
   obtain⟨d,hd,rfl⟩:=hk
   exact .d (hr.2 k d u hd (by simpa using hu))⟩ hv
 refine Calls.mono hcall fun e w' hR=>?_
 obtain⟨G',h',H',hR⟩:=hR
 have hb0:G'.box 0=some b:=H'.gb.box 0 b (by simp [E,G])
 have hrc:(G'.rc 0).defers=z:=by rw [H'.gb.rc 0 b (by simp [E,G])]
 have hfin:∀ cs',boxIs h' cs'->∃ (arr':Array Value) (ty':TypeId),w'.heap[b]?=some (.cells arr' ty' (0,0))∧(∀ a:Addr,a.block=b->¬ G'.I a)∧z<=arr'.size∧RepP G'.I w' cs' arr'∧(∀ c∈cs',c.one=true):=fun cs' hbx=>by
  unfold boxIs at hbx
  split at hbx
  ·rename_i ag cs2 hlk
   obtain⟨b',arr',ty',e1,e2,e3,e4⟩:=H'.box 0 ag cs2 hlk
   rw [hb0] at e1;injection e1 with e1;subst e1
   refine⟨arr',ty',e2,fun a ha=>(H'.bown 0 _ hb0).2.2.1 (by rw [hlk];simp) a ha,by rw [<- hrc];exact e4.2,?_,hbx.2⟩
   have hagg:leA noRen noNew noOk 4 (.agg cs2) (.agg (cs'.map .d)):=by
    unfold leA
    exact⟨hbx.1,fun c hc=>by
     obtain⟨d,hd,rfl⟩:=List.mem_map.1 hc
     exact hbx.2 d hd⟩
   have hra:RepA G' w' (.agg cs2) (.agg (arr'.toList.take cs2.length).toArray):=.agg (by have:=e3.1;simp;omega) e4.1 (fun k c v hk hv=>by
    simp only [List.getElem?_toArray,List.getElem?_take] at hv
    split at hv
    ·exact e3.2 k c v hk (by simpa using hv)
    ·cases hv)
   obtain⟨vs,hv1,hv2,hv3⟩:=(leA_rep 4 _ _ hagg hra).agg_inv
   injection hv1 with hv1;subst hv1
   have hle:=e3.1
   simp at hv2
   refine⟨by omega,fun k c v hk hv=>?_⟩
   have hlt:=(List.getElem?_eq_some_iff.1 hk).1
   exact(hv3 k (.d c) v (by simp [hk]) (by
    simp only [List.getElem?_toArray,List.getElem?_take]
    rw [if_pos (by omega)]
    simpa using hv)).of_d
  ·exact hbx.elim
 have hnew:∀ (hx:∀ a:Addr,a.block=b->¬ G'.I a) (a:Addr),G'.I a->I a∨w.heap.size<=a.block:=fun hx a ha=>by
  rcases H'.inew a ha with h1 | h1 | h1
  ·exact .inl h1
  ·exact .inr h1
  ·exact absurd ha (hx a h1)
 cases e with
 | returned v =>
  obtain⟨av,k1,k2,cs',kR,k3⟩:=hR
  obtain⟨arr',ty',q1,q2,q3,q4,q5⟩:=hfin cs' k3
  refine⟨G'.I,v,arr',ty',cs',kR,H'.i0,hnew q2,H'.icell,⟨H'.os,H'.tape,H'.output,H'.size⟩,fun k hk hkb=>(H'.kept k ⟨hk,hkb⟩).2,q1,q2,q3,q4,q5,?_⟩
  cases out with
  | ret d=>exact⟨rfl,(leA_rep 3 _ _ k2 k1).of_d⟩
  | _=>exact k2.elim
 | panicked ch =>
  obtain⟨v,d,rfl,k1,k2,cs',kR,k3⟩:=hR
  obtain⟨arr',ty',q1,q2,q3,q4,q5⟩:=hfin cs' k3
  refine⟨G'.I,v,arr',ty',cs',kR,H'.i0,hnew q2,H'.icell,⟨H'.os,H'.tape,H'.output,H'.size⟩,fun k hk hkb=>(H'.kept k ⟨hk,hkb⟩).2,q1,q2,q3,q4,q5,?_⟩
  cases out with
  | pan d' =>
   have k2:d=d':=k2
   exact⟨rfl,k2 ▸ k1⟩
  | _=>exact k2.elim
 | outgrown=>exact hR.elim
theorem bcall_of_vc{P:Program}{f:FuncId}{fn:AF}{cs ds:List D}{R:List D->Prop}{out:Out}{C:FuncId->List D->Out->Prop}(hC:∀ f ds out,C f ds out->PCall P f ds out) (hF:CmpF P f fn) (hn:ds.length+1<=fn.nt)
  (hv:(∀ d∈cs,Real d)->(∀ d∈ds,Real d)->vcX P {C:=C,B:=1} fn.body (endH P C fn (retB out R)) ⟨argA (.ptr 0 0::ds.map .d) 0,[(0,.box true (cs.map .d))],[]⟩):BCall P f cs ds out R :=
 bcall_of_hcall (hcall_of_vc hF) hC (fun h1 h2=>⟨by simpa using hn,by have:=hv h1 h2;rw [vcX_eq] at this;exact this⟩)
def outK (out:Out) (K:HOut->List (Nat×HO)->Prop) (h:List (Nat×HO)):Prop :=
 match out with
 | .ret d=>K (.ret (.d d)) h
 | .pan d=>K (.pan d) h
 | _=>False
def TB (cs ds:List D) (out:Out) (R:List D->Prop) (_:Cx) (all:List AV) (h:List (Nat×HO)) (K:HOut->List (Nat×HO)->Prop):Prop :=
 ∃ n ag as,all=.ptr n 0::as∧argsD h as=some (ds,false)∧look h n=some (.box ag (cs.map .d))∧∀ cs',R cs'->(∀ c∈cs',c.one=true)->outK out K (setH h n (.box ag (cs'.map .d)))
theorem hcall_of_bcall{P:Program}{f:FuncId}{cs ds:List D}{R:List D->Prop}{out:Out}(hB:BCall P f cs ds out R):HCall P f (TB cs ds out R):=by
 refine⟨hB.1,fun E cx G h w all vals K H hok hr hk=>?_⟩
 obtain⟨n,ag,as,rfl,hargs,hlk,hK⟩:=hk
 cases vals with
 | nil=>have:=hr.1;simp at this
 | cons u us =>
 have hl:us.length=as.length:=by have:=hr.1;simpa using this
 obtain⟨b,rfl,hb⟩:=(hr.2 0 (.ptr n 0) u rfl rfl).ptr_inv
 obtain⟨b',arr,ty,e1,e2,e3,e4⟩:=H.box n ag (cs.map .d) hlk
 rw [hb] at e1;injection e1 with e1;subst e1
 obtain⟨hlt,hKb,hnb,hge⟩:=H.bown n _ hb
 have hnb:=hnb (by rw [hlk];simp)
 obtain⟨i1,i2⟩:=argsD_rep H hargs (fun p hp=>argH_look p hp) hl (fun k c v hk hv=>hr.2 (k+1) c v (by simpa using hk) (by simpa using hv))
 have hcall:=hB.2 G.I w _ arr ty (G.rc n).defers us H.icell H.gl e2 (fun a ha=>hnb a ha) e4.2 ⟨by simpa using e3.1,fun k c v hk hv=>(e3.2 k (.d c) v (by simp [hk]) hv).of_d⟩ (fun c hc=>e4.1 (.d c) (List.mem_map_of_mem hc)) ⟨by simp [i1,hl],fun k c v hk hv=>(i2 k c v hk (by simpa using hv)).2 rfl⟩
 refine Calls.mono hcall fun e w' hR=>?_
 obtain⟨I',v,arr',ty',cs',cR,c1,c2,c3,⟨c4,c5,c6,c7⟩,c8,c9,c10,c11,c12,c13,c14⟩:=hR
 have hle:GLe G w {G with I:=I'} w':=⟨c1,fun _ _ h=>h,fun _ _ h=>h,fun _ _ _=>rfl⟩
 have hblk:∀ m b0,G.box m=some b0->m≠n->look h m≠some .dead->w'.heap[b0]?=w.heap[b0]?:=fun m b0 hm hne hd=>c8 b0 (H.bown m b0 hm).1 (fun e=>hne (H.binj m n _ (e ▸ hm) hb hd (fun q=>by rw [hlk] at q;cases q)))
 have hupd:∀ m,look (setH h n (.box ag (cs'.map .d))) m=if m=n then some (.box ag (cs'.map .d)) else look h m:=fun m=>look_setH h n _ m
 have H':WRel E {G with I:=I'} (look (setH h n (.box ag (cs'.map .d)))) w':=by
  refine⟨c4.trans H.os,c5.trans H.tape,c6.trans H.output,Nat.le_trans H.size c7,fun k hk=>?_,fun a ha=>?_,fun a ha=>?_,c3,fun m hm=>?_,fun m ag' cs1 hm=>?_,fun m b0 hm=>?_,fun k m b0 h1 h2 q1 q2=>H.binj k m b0 h1 h2 (fun q=>q1 (by rw [hupd,if_neg (fun e=>by subst e;rw [hlk] at q;cases q)];exact q)) (fun q=>q2 (by rw [hupd,if_neg (fun e=>by subst e;rw [hlk] at q;cases q)];exact q)),fun r hr'=>?_,fun r r' A k cap sz A' k' cap' sz' hr1 hr2=>?_,fun m s hm=>?_,fun m es hm=>?_,H.gb.trans hle,H.gB⟩
  ·obtain⟨h1,h2⟩:=H.kept k hk
   exact⟨h1,(c8 k (Nat.lt_of_lt_of_le h1 H.size) (fun e=>hKb (e ▸ hk))).trans h2⟩
  ·obtain⟨h1,h2⟩:=H.i0 a ha
   exact⟨(c1 a h1).1,(c1 a h1).2.trans h2⟩
  ·rcases c2 a ha with h1 | h1
   ·exact H.inew a h1
   ·exact .inr (E.hN _ (Nat.le_trans H.size h1))
  ·rw [hupd] at hm
   split at hm
   ·cases hm
   ·exact H.fresh m hm
  ·rw [hupd] at hm
   split at hm
   ·rename_i e
    injection hm with hm;injection hm with _ hm;subst hm;subst e
    refine⟨_,arr',ty',hb,c9,⟨by simpa using c12.1,fun k c v hk hv=>?_⟩,fun c hc=>?_,c11⟩
    ·simp only [List.getElem?_map,Option.map_eq_some_iff] at hk
     obtain⟨d,hd,rfl⟩:=hk
     exact .d (c12.2 k d v hd hv)
    ·obtain⟨d,hd,rfl⟩:=List.mem_map.1 hc
     exact c13 d hd
   ·rename_i hne
    obtain⟨b2,arr2,ty2,f1,f2,f3,f4⟩:=H.box m ag' cs1 hm
    exact⟨b2,arr2,ty2,f1,(hblk m b2 f1 hne (fun q=>by rw [hm] at q;cases q)).trans f2,f3.mono hle,f4⟩
  ·obtain⟨f1,f2,f3,f4⟩:=H.bown m b0 hm
   refine⟨Nat.lt_of_lt_of_le f1 c7,f2,fun hd a e ha=>?_,f4⟩
   by_cases hne:m=n
   ·subst hne
    rw [hb] at hm;injection hm with hm
    exact c10 a (e.trans hm.symm) ha
   ·rcases c2 a ha with h1 | h1
    ·exact f3 (fun he=>hd (by rw [hupd,if_neg hne];exact he)) a e h1
    ·omega
  ·rw [hupd] at hr'
   split at hr'
   ·injection hr' with hr';cases hr'
   ·obtain⟨A,k,cap,sz,f1,f2⟩:=H.row r hr'
    refine⟨A,k,cap,sz,f1,fun j hj hj'=>?_⟩
    obtain⟨ad,e,d1,d2,d3,d4,d5⟩:=f2 j hj hj'
    have hadlt:ad.block<w.heap.size:=by
     obtain⟨v,hv⟩:=Option.isSome_iff_exists.1 d1
     have:=World.block_lt_of_cell? w _ hv
     rwa [block_add] at this
    have hb2:w'.heap[(ad.add j).block]?=w.heap[(ad.add j).block]?:=by rw [block_add];exact c8 _ hadlt (fun e=>d5 n (e ▸ hb))
    refine⟨ad,e,by rw [World.cell?_of_block hb2];exact d1,by rw [World.frozen?_of_block hb2];exact d2,fun hi=>?_,d4,d5⟩
    rcases c2 _ hi with h4 | h4
    ·exact d3 h4
    ·rw [block_add] at h4;omega
  ·rw [hupd] at hr1 hr2
   split at hr1
   ·injection hr1 with hr1;cases hr1
   ·split at hr2
    ·injection hr2 with hr2;cases hr2
    ·exact H.rinj r r' A k cap sz A' k' cap' sz' hr1 hr2
  ·rw [hupd] at hm
   split at hm
   ·injection hm with hm;cases hm
   ·rename_i hne
    obtain⟨b2,f1,f2⟩:=H.obj m s hm
    exact⟨b2,f1,(hblk m b2 f1 hne (fun q=>by rw [hm] at q;cases q)).trans f2⟩
  ·rw [hupd] at hm
   split at hm
   ·injection hm with hm;cases hm
   ·rename_i hne
    obtain⟨b2,arr2,ck,f1,f2,f3⟩:=H.mapo m es hm
    exact⟨b2,arr2,ck,f1,(hblk m b2 f1 hne (fun q=>by rw [hm] at q;cases q)).trans f2,f3.mono hle⟩
 refine⟨_,_,H',?_⟩
 cases out with
 | ret d =>
  obtain⟨rfl,hd⟩:=c14
  exact⟨.d d,.d hd,hK cs' cR c13⟩
 | pan d =>
  obtain⟨rfl,hd⟩:=c14
  exact⟨v,d,rfl,hd,hK cs' cR c13⟩
 | app sz es=>exact c14.elim
 | retM es=>exact c14.elim
theorem retB_ret(d:D) (R:List D->Prop) (v:AV) (h:List (Nat×HO)):retB (.ret d) R (.ret v) h=(leA noRen noNew noOk 3 v (.d d)∧∃ cs',R cs'∧boxIs h cs'):=rfl
theorem retB_pan(x d:D) (R:List D->Prop) (h:List (Nat×HO)):retB (.pan d) R (.pan x) h=(x=d∧∃ cs',R cs'∧boxIs h cs'):=rfl
theorem boxIs_eq(h:List (Nat×HO)) (cs':List D):boxIs h cs'=match look h 0 with
 | some (.box _ cs)=>leA.leL noRen noNew noOk 3 cs (cs'.map .d)∧∀ c∈cs',c.one=true
 | _=>False:=rfl
theorem outK_ret(d:D) (K:HOut->List (Nat×HO)->Prop) (h:List (Nat×HO)):outK (.ret d) K h=K (.ret (.d d)) h:=rfl
theorem outK_pan(d:D) (K:HOut->List (Nat×HO)->Prop) (h:List (Nat×HO)):outK (.pan d) K h=K (.pan d) h:=rfl
attribute [simp] retB_ret retB_pan boxIs_eq outK_ret outK_pan
structure CmpRF1 (P:Program) (f:FuncId) (g:AR):Prop where
 ex:∃ F id o0 c args ts,P.funcs[f]?=some F∧(F.name == "runtime.NumGoroutine")=false∧F.body=some (.seq (.region id #[o0] false) c)∧F.ntmps=g.nt ∧
  o0.op=.call {callee:=.builtin .recover,args:=args,argTypes:=ts}∧o0.guard=none∧o0.dst=some g.ta∧g.ta<g.nt∧CmpC P g.nt c g.rest∧All2 (CmpR P) F.results.toList g.res
def TR1 (P:Program) (g:AR) (cx:Cx) (all:List AV) (u:Option D) (h:List (Nat×HO)) (K:Option D->List (Nat×HO)->Prop):Prop :=
 all.length<=g.nt∧vc P cx g.rest (endR g.res K u) ⟨(g.ta,true,.d (uD u))::argA all 0,h,[]⟩
theorem TR1_eq{P:Program}{cx:Cx}{g:AR}{all:List AV}{u:Option D}{h:List (Nat×HO)}{K:Option D->List (Nat×HO)->Prop}:TR1 P g cx all u h K=(all.length<=g.nt∧vcX P cx g.rest (endR g.res K u) ⟨(g.ta,true,.d (uD u))::argA all 0,h,[]⟩):=by rw [vcX_eq];rfl
theorem dcall_of_vcR1{P:Program}{f:FuncId}{g:AR}(hF:CmpRF1 P f g):DCall P f (TR1 P g):=by
 obtain⟨F,id,o0,c,args,ts,h1,h2,h3,h4,r1,r2,r3,r7,h5,h6⟩:=hF.ex
 obtain⟨nt,ta,tb,rest,res⟩:=g
 simp only at h4 r3 r7 h5 h6
 subst h4
 refine⟨⟨F,h1,h2,by rw [h3];rfl⟩,fun E cx G h w all vals u mode K H hok hr hu hT=>?_⟩
 obtain⟨hn,hvc⟩:=hT
 have H':=start_rel (P:=P) (nt:=F.ntmps) H hr hn
 refine callsDIn_of_wpSIn (F:=Fr none) (n:=0) h1 h3 trivial (fun c₀ cs hm=>?_)
 obtain⟨a0,ha0⟩:∃ a0:Act,a0={tmps:=vals.toArray++Array.replicate (F.ntmps-vals.toArray.size) undef,defers:=[]}:=⟨_,rfl⟩
 rw [<- ha0] at H' ⊢
 obtain⟨v,m',hrec,hv,hm'⟩:∃ v m',(recoverD (c₀::cs)=some (v,{c₀ with mode:=m'}::cs)∨(recoverD (c₀::cs)=none∧v=.nilIface∧c₀={c₀ with mode:=m'}))∧RepA G w (.d (uD u)) v ∧
   (settle m'=.returning∧(u=none->m'=.returning)):=by
  cases u with
  | none =>
   simp only [modeOf] at hu
   subst hu
   exact⟨.nilIface,.returning,.inr ⟨by simp [recoverD,hm],rfl,by rw [<- hm]⟩,.d (.lit trivial),rfl,fun _=>rfl⟩
  | some d =>
   obtain⟨v,rfl,hv⟩:=hu
   exact⟨v,_,.inl (by simp [recoverD,hm];rfl),.d (hv.mono H.gb.imm),rfl,fun h=>by cases h⟩
 have H1:=H'.put (up:=[]) (dst:=some ta) (g:=true) (v:=.d (uD u)) (val:=v) (GLe.refl G w) H'.wr (fun d hd=>by injection hd with hd;rw [<- hd];exact r7) (fun _=>hv) (fun hf=>by cases hf)
 have hwp:=vc_sound (ro:=none) h5 hok (by exact hvc) H1
 have hrest:∀ R:Ending->FrameMode->World->Prop,(∀ e a' w',Post E F.ntmps (endR res K u) e a' w'->bodyPostS P F c₀ cs R e a' ({c₀ with mode:=m'}::cs) w') ->
   Code.wpSIn (Fr none) 0 P (.seq (.region id #[o0] false) c) (bodyPostS P F c₀ cs R) a0 (c₀::cs) w:=by
  intro R hR
  refine wpSIn_seq (wpSIn_region ?_)
  have e0:(execOp a0.eval o0).run P w=.ok .recover w:=by
   simp [execOp,r1,resolve,invoke,builtin]
  have hgo:wpOpsSIn (Fr none) 0 P #[o0] (Exit.thenS (c.wpSIn (Fr none) 0 P (bodyPostS P F c₀ cs R)) (bodyPostS P F c₀ cs R)) [] (a0.put o0.dst v) ({c₀ with mode:=m'}::cs) w:=by
   simp only [wpOpsSIn]
   refine wpSIn_of_wpIn rfl (wpIn_mono ?_ (fun e a' w' hq=>hR e a' w' hq))
   rw [r3]
   exact hwp
  simp only [List.size_toArray,List.length_cons,List.length_nil,show List.range (0+1)=[0] from rfl]
  unfold wpOpsSIn
  simp only [List.getElem?_toArray,List.getElem?_cons_zero,Region.wanted,r2,if_true]
  refine⟨fun _ _=>trivial,?_⟩
  rw [e0]
  rcases hrec with hrec | ⟨hrec,rfl,hc⟩
  ·simp only [hrec];exact hgo
  ·simp only [hrec];rw [<- hc] at hgo;exact hgo
 refine hrest _ (fun e a' w' hq=>?_)
 have hret:∀ (G':Gh) (σ:St),StRel E G' σ a' w' F.ntmps->σ.d=[]∧(match retV ⟨σ.s,σ.h,[]⟩ res with | some (c,_)=>c | none=>False)∧K none σ.h ->
   a'.defers=[]∧∃ u',({c₀ with mode:=m'}::cs:List Frame)={c₀ with mode:=u'}::cs∧∃ v,(results F a'.tmps).run P w'=.ok v w'∧∃ G' h' u'',WRel E G' (look h') w'∧K u'' h'∧modeOf G' w' u'' (settle u'):=by
  intro G' σ H' hq
  obtain⟨q1,q2,q3⟩:=hq
  split at q2
  ·rename_i c v hrv
   have H2:StRel E G' ⟨σ.s,σ.h,[]⟩ a' w' F.ntmps:=⟨H'.wr,H'.sz,H'.sr,by have:=H'.defers;rw [q1] at this;exact this⟩
   obtain⟨r,k1,k2⟩:=run_results H2 (l:=res) (F:=F) h6 hrv q2
   exact⟨rep_nil_defers H' q1,m',rfl,r,k1,G',σ.h,none,H'.wr,q3,hm'.1⟩
  ·exact q2.elim
 cases e with
 | normal=>obtain⟨G',σ,H',hq⟩:=hq;exact hret G' σ H' hq
 | ret=>obtain⟨G',σ,H',hq⟩:=hq;exact hret G' σ H' hq
 | panic chain =>
  obtain⟨G',σ,v,d,H',rfl,hrep,q1,hu0,q3⟩:=hq
  refine⟨rep_nil_defers H' q1,m',rfl,G',σ.h,some d,H'.wr,q3,?_⟩
  rw [hm'.2 hu0]
  exact⟨v,rfl,hrep⟩
 | exit id=>obtain⟨G',σ,H',hq⟩:=hq;exact hq.elim
 | goto l=>exact hq.elim
 | outgrown=>exact hq.elim
def chkRF1 (P:Program) (F:Func) (g:AR):Bool :=
 !(F.name == "runtime.NumGoroutine")&&(F.ntmps == g.nt&&(chkAll (chkR P) F.results.toList g.res&&match F.body with
  | some (.seq (.region _ ops false) c)=>(match ops.toList with
   | [o0]=>isRecover o0.op&&(o0.guard == none&&(o0.dst == some g.ta&&(decide (g.ta<g.nt)&&chkC P {} g.nt c g.rest)))
   | _=>false)
  | _=>false))
theorem chkRF1_cmp{P:Program}{f:FuncId}{F:Func}{g:AR}(hf:P.funcs[f]?=some F) (hm:P.follows .mixedOrders=true) (h:chkRF1 P F g=true):CmpRF1 P f g:=by
 unfold chkRF1 at h
 simp only [Bool.and_eq_true,Bool.not_eq_true',beq_iff_eq] at h
 obtain⟨h1,h2,h3,h4⟩:=h
 split at h4
 ·rename_i id ops c hb
  split at h4
  ·rename_i o0 hops
   simp only [Bool.and_eq_true,beq_iff_eq,decide_eq_true_eq] at h4
   obtain⟨q1,q2,q3,q7,q9⟩:=h4
   unfold isRecover at q1
   split at q1
   ·rename_i xs ts hbi
    have he:=builtinOf_spec hbi
    have hops':ops=#[o0]:=by apply Array.ext';simpa using hops
    exact⟨F,id,o0,c,_,_,hf,h1,by rw [hb,hops'],h2,he,q2,q3,q7,chkC_cmp hm q9,chkAll_all2 (fun _ _ h=>chkR_cmp h) h3⟩
   ·cases q1
  ·cases h4
 ·cases h4
end

end Go.Proofs.YtmmlicjkdeankaaGreatDoor.AL
